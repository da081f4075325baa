/-
  Texts of the proof of 'LexG': UtfA, Row, UtfB, UtfH, UtfC, UtfJ, UtfK, LexT, LexM, LgA, LgM, UtfD, Bits, DivP, Div, Copy.
-/
import Derived.Test.YtgmholdkdppbmaaGreatDoorLexGAA
import Derived.Test.YtgmholdkdppbmaaGreatDoorRows
import Derived.WalkKit
import Derived.WalkLawsBesides
import Derived.WalkSpells
import Derived.Handy
import Derived.Deep.AppendLies
import Derived.Laws.MakeOwn
import Derived.Deep.RegionHeld3
import Derived.Deep.DrawnRows
import Derived.BigRegion
import Derived.Laws.IdiomStrings
import Derived.Deep.QuietTactic
import Derived.BigQuiet
import Derived.RegionTactic
import Derived.ChangeAlike
import Derived.IntWalk
import Derived.Deep.RegionLaw
import Derived.OneCell
import Derived.ArgAppend
import Derived.Test.YtgmholdkdppbmaaGreatDoorShelf
import Derived.Lib.Hide
import Derived.Lib.BitFns
import Derived.Laws.Externs
import Derived.Laws.Bits64
import Derived.KernelRfl
import Derived.Deep.CutBlock
import Derived.Deep.CutRange
import Derived.Laws.CopyOwn
set_option linter.unusedVariables false
set_option linter.unusedSimpArgs false
namespace Go.Proofs.YtgmholdkdppbmaaGreatDoor
open Go.RowKit
def flo (c:Nat):Nat:=if 2 ≤ wd c then lo c else 0
def fhi (c:Nat):Nat:=if 2 ≤ wd c then hi c else 0
abbrev formV (c:Nat):Value:=.agg #[.int .i64 (wd c:Nat),.int .u8 (flo c:Nat),.int .u8 (fhi c:Nat)]
theorem formOf_is (c n l h:Nat) (w:World) (hn:wd c = n) (hl:flo c = l) (hh:fhi c = h) (H:Calls Tryz.prog 102 #[.int .u8 c] w fun e w'=>e = .returned (.agg #[.int .i64 n,.int .u8 l,.int .u8 h]) ∧ Below w.heap.size w w') :
    Calls Tryz.prog 102 #[.int .u8 c] w fun e w'=>e = .returned (formV c) ∧ Below w.heap.size w w':=by
  unfold formV;rw [hn,hl,hh];exact H
def secB (c d:Nat):Bool:=decide (lo c ≤ d ∧ d ≤ hi c)
theorem cl1:∀ c,c < 256 → c < 128 → wd c = 1 ∧ flo c = 0 ∧ fhi c = 0:=by decide +kernel
theorem cl2:∀ c,c < 256 → ¬ c < 128 → c < 194 → wd c = 0 ∧ flo c = 0 ∧ fhi c = 0:=by decide +kernel
theorem cl3:∀ c,c < 256 → ¬ c < 194 → c < 224 → wd c = 2 ∧ flo c = 128 ∧ fhi c = 191:=by decide +kernel
theorem cl6':∀ c,c < 256 → (224 ≤ c ∧ c ≠ 224 ∧ c ≠ 237 ∧ c < 240) → wd c = 3 ∧ flo c = 128 ∧ fhi c = 191:=by decide +kernel
theorem cl6 (c:Nat) (h0:c < 256) (h1:¬ c < 224) (h2:c ≠ 224) (h3:c ≠ 237) (h4:c < 240):wd c = 3 ∧ flo c = 128 ∧ fhi c = 191:=cl6' c h0 ⟨by omega,h2,h3,h4⟩
theorem cl8:∀ c,c < 256 → ¬ c < 240 → c ≠ 240 → c < 244 → wd c = 4 ∧ flo c = 128 ∧ fhi c = 191:=by decide +kernel
theorem cl9:∀ c,c < 256 → ¬ c < 244 → c ≠ 244 → wd c = 0 ∧ flo c = 0 ∧ fhi c = 0:=by decide +kernel
theorem sc0:∀ c,c < 256 → ∀ d,d < 256 → (d < 128 ∨ 191 < d) → secB c d = false:=by decide +kernel
theorem sc1:∀ c,c < 256 → (c ≠ 224 ∧ c ≠ 237 ∧ c ≠ 240 ∧ c ≠ 244) → ∀ d,d < 256 → (128 ≤ d ∧ d ≤ 191) → secB c d = true:=by decide +kernel
set_option maxRecDepth 100000 in
set_option maxHeartbeats 2000000 in
theorem formOf_any (c:Nat) (w:World) (hc:c < 256):Calls Tryz.prog 102 #[.int .u8 c] w fun e w'=>e = .returned (formV c) ∧ Below w.heap.size w w':=by
  by_cases h1:c < 128
  · refine formOf_is c 1 0 0 w (cl1 c hc h1).1 (cl1 c hc h1).2.1 (cl1 c hc h1).2.2 ?_
    go_enter Tryz.func102,Tryz.ntmps102
    go_wp2
    exact bodyPost_ret (v:=.agg #[.int .i64 1,.int .u8 0,.int .u8 0]) (by simp [results,Tryz.results102,go_sem]) rfl ⟨rfl,by go_grown⟩
  by_cases h2:c < 194
  · refine formOf_is c 0 0 0 w (cl2 c hc h1 h2).1 (cl2 c hc h1 h2).2.1 (cl2 c hc h1 h2).2.2 ?_
    go_enter Tryz.func102,Tryz.ntmps102
    go_wp2
    exact bodyPost_ret (v:=.agg #[.int .i64 0,.int .u8 0,.int .u8 0]) (by simp [results,Tryz.results102,go_sem]) rfl ⟨rfl,by go_grown⟩
  by_cases h3:c < 224
  · refine formOf_is c 2 128 191 w (cl3 c hc h2 h3).1 (cl3 c hc h2 h3).2.1 (cl3 c hc h2 h3).2.2 ?_
    go_enter Tryz.func102,Tryz.ntmps102
    go_wp2
    exact bodyPost_ret (v:=.agg #[.int .i64 2,.int .u8 128,.int .u8 191]) (by simp [results,Tryz.results102,go_sem]) rfl ⟨rfl,by go_grown⟩
  by_cases h4:c = 224
  · subst h4
    refine formOf_is 224 3 160 191 w (by decide) (by decide) (by decide) ?_
    go_enter Tryz.func102,Tryz.ntmps102
    go_wp2
    exact bodyPost_ret (v:=.agg #[.int .i64 3,.int .u8 160,.int .u8 191]) (by simp [results,Tryz.results102,go_sem]) rfl ⟨rfl,by go_grown⟩
  by_cases h5:c = 237
  · subst h5
    refine formOf_is 237 3 128 159 w (by decide) (by decide) (by decide) ?_
    go_enter Tryz.func102,Tryz.ntmps102
    go_wp2
    exact bodyPost_ret (v:=.agg #[.int .i64 3,.int .u8 128,.int .u8 159]) (by simp [results,Tryz.results102,go_sem]) rfl ⟨rfl,by go_grown⟩
  by_cases h6:c < 240
  · have e4:((c:Int) == 224) = false:=by simp;omega
    have e5:((c:Int) == 237) = false:=by simp;omega
    refine formOf_is c 3 128 191 w (cl6 c hc h3 h4 h5 h6).1 (cl6 c hc h3 h4 h5 h6).2.1 (cl6 c hc h3 h4 h5 h6).2.2 ?_
    go_enter Tryz.func102,Tryz.ntmps102
    go_wp2
    exact bodyPost_ret (v:=.agg #[.int .i64 3,.int .u8 128,.int .u8 191]) (by simp [results,Tryz.results102,go_sem]) rfl ⟨rfl,by go_grown⟩
  by_cases h7:c = 240
  · subst h7
    refine formOf_is 240 4 144 191 w (by decide) (by decide) (by decide) ?_
    go_enter Tryz.func102,Tryz.ntmps102
    go_wp2
    exact bodyPost_ret (v:=.agg #[.int .i64 4,.int .u8 144,.int .u8 191]) (by simp [results,Tryz.results102,go_sem]) rfl ⟨rfl,by go_grown⟩
  by_cases h8:c < 244
  · have e4:((c:Int) == 224) = false:=by simp;omega
    have e5:((c:Int) == 237) = false:=by simp;omega
    have e6:((c:Int) == 240) = false:=by simp;omega
    refine formOf_is c 4 128 191 w (cl8 c hc h6 h7 h8).1 (cl8 c hc h6 h7 h8).2.1 (cl8 c hc h6 h7 h8).2.2 ?_
    go_enter Tryz.func102,Tryz.ntmps102
    go_wp2
    exact bodyPost_ret (v:=.agg #[.int .i64 4,.int .u8 128,.int .u8 191]) (by simp [results,Tryz.results102,go_sem]) rfl ⟨rfl,by go_grown⟩
  by_cases h9:c = 244
  · subst h9
    refine formOf_is 244 4 128 143 w (by decide) (by decide) (by decide) ?_
    go_enter Tryz.func102,Tryz.ntmps102
    go_wp2
    exact bodyPost_ret (v:=.agg #[.int .i64 4,.int .u8 128,.int .u8 143]) (by simp [results,Tryz.results102,go_sem]) rfl ⟨rfl,by go_grown⟩
  have e4:((c:Int) == 224) = false:=by simp;omega
  have e5:((c:Int) == 237) = false:=by simp;omega
  have e6:((c:Int) == 240) = false:=by simp;omega
  have e7:((c:Int) == 244) = false:=by simp;omega
  refine formOf_is c 0 0 0 w (cl9 c hc h8 h9).1 (cl9 c hc h8 h9).2.1 (cl9 c hc h8 h9).2.2 ?_
  go_enter Tryz.func102,Tryz.ntmps102
  go_wp2
  exact bodyPost_ret (v:=.agg #[.int .i64 0,.int .u8 0,.int .u8 0]) (by simp [results,Tryz.results102,go_sem]) rfl ⟨rfl,by go_grown⟩
def mayB (l h i d:Nat):Bool:=if i = 1 then decide (l ≤ d ∧ d ≤ h) else decide (128 ≤ d ∧ d ≤ 191)
theorem mayB_ok (c i d:Nat) (h:2 ≤ wd c):mayB (flo c) (fhi c) i d = okb c i d:=by unfold mayB okb flo fhi;rw [if_pos h,if_pos h]
theorem ret_bool {a b:Bool} (h:a = b):Ending.returned (.bool a) = .returned (.bool b):=by rw [h]
theorem may_any (n l h i d:Nat) (w:World) (hl:l < 256) (hh:h < 256) (hd:d < 256) (hi:i < 1000000) :
    Calls Tryz.prog 103 #[.agg #[.int .i64 n,.int .u8 l,.int .u8 h],.int .i64 i,.int .u8 d] w fun e w'=>e = .returned (.bool (mayB l h i d)) ∧ Below w.heap.size w w':=by
  by_cases h1:i = 1
  · subst h1
    by_cases h2:l ≤ d
    · by_cases h3:d ≤ h
      · have E:mayB l h 1 d = true:=by simp [mayB];omega
        rw [E]
        clear E
        go_enter Tryz.func103,Tryz.ntmps103
        go_wp2
        go_ret
        exact ⟨rfl,by go_grown⟩
      · have E:mayB l h 1 d = false:=by simp [mayB];omega
        rw [E]
        clear E
        have h3':decide (d ≤ h) = false:=by simpa using h3
        go_enter Tryz.func103,Tryz.ntmps103
        go_wp2
        go_ret
        exact ⟨rfl,by go_grown⟩
    · have E:mayB l h 1 d = false:=by simp [mayB];omega
      rw [E]
      clear E
      have h3':decide (l ≤ d) = false:=by simpa using h2
      go_enter Tryz.func103,Tryz.ntmps103
      go_wp2
      go_ret
      exact ⟨rfl,by go_grown⟩
  · have e1:((i:Int) == 1) = false:=by simp;omega
    by_cases h2:128 ≤ d
    · by_cases h3:d ≤ 191
      · have E:mayB l h i d = true:=by simp [mayB,h1];omega
        rw [E]
        clear E
        go_enter Tryz.func103,Tryz.ntmps103
        go_wp2
        go_ret
        exact ⟨ret_bool (by simp <;> omega),by go_grown⟩
      · have E:mayB l h i d = false:=by simp [mayB,h1];omega
        rw [E]
        clear E
        go_enter Tryz.func103,Tryz.ntmps103
        go_wp2
        go_ret
        exact ⟨ret_bool (by simp <;> omega),by go_grown⟩
    · have E:mayB l h i d = false:=by simp [mayB,h1];omega
      rw [E]
      clear E
      go_enter Tryz.func103,Tryz.ntmps103
      go_wp2
      go_ret
      exact ⟨ret_bool (by simp <;> omega),by go_grown⟩
def scalB (r:Int):Bool:=decide (0 ≤ r ∧ r < 55296 ∨ 57343 < r ∧ r ≤ 1114111)
theorem character_any (r:Int) (w:World) :
    Calls Tryz.prog 133 #[.int .i32 r] w fun e w'=>e = .returned (.bool (scalB r)) ∧ w = w':=by
  by_cases h0:0 ≤ r
  · by_cases h1:r < 55296
    · have E:scalB r = true:=by simp [scalB];omega
      rw [E];clear E
      have h2:r ≤ 1114111:=by omega
      go_enter Tryz.func133,Tryz.ntmps133
      go_wp2
      go_ret
      exact ⟨rfl,rfl⟩
    · by_cases h2:r ≤ 1114111
      · by_cases h3:57343 < r
        · have E:scalB r = true:=by simp [scalB];omega
          rw [E];clear E
          go_enter Tryz.func133,Tryz.ntmps133
          go_wp2
          go_ret
          exact ⟨rfl,rfl⟩
        · have E:scalB r = false:=by simp [scalB];omega
          rw [E];clear E
          go_enter Tryz.func133,Tryz.ntmps133
          go_wp2
          go_ret
          exact ⟨rfl,rfl⟩
      · have h3:57343 < r:=by omega
        have E:scalB r = false:=by simp [scalB];omega
        rw [E];clear E
        go_enter Tryz.func133,Tryz.ntmps133
        go_wp2
        go_ret
        exact ⟨rfl,rfl⟩
  · have E:scalB r = false:=by simp [scalB];omega
    rw [E];clear E
    have h3:¬ 57343 < r:=by omega
    go_enter Tryz.func133,Tryz.ntmps133
    go_wp2
    go_ret
    exact ⟨rfl,rfl⟩
theorem scalar_any (r:Int) (w:World) :
    Calls Tryz.prog 105 #[.int .i32 r] w fun e w'=>e = .returned (.bool (scalB r)) ∧ w = w':=by
  by_cases h0:0 ≤ r
  · by_cases h1:r < 55296
    · have E:scalB r = true:=by simp [scalB];omega
      rw [E];clear E
      have h2:r ≤ 1114111:=by omega
      go_enter Tryz.func105,Tryz.ntmps105
      go_wp2
      go_ret
      exact ⟨rfl,rfl⟩
    · by_cases h2:r ≤ 1114111
      · by_cases h3:57343 < r
        · have E:scalB r = true:=by simp [scalB];omega
          rw [E];clear E
          go_enter Tryz.func105,Tryz.ntmps105
          go_wp2
          go_ret
          exact ⟨rfl,rfl⟩
        · have E:scalB r = false:=by simp [scalB];omega
          rw [E];clear E
          go_enter Tryz.func105,Tryz.ntmps105
          go_wp2
          go_ret
          exact ⟨rfl,rfl⟩
      · have h3:57343 < r:=by omega
        have E:scalB r = false:=by simp [scalB];omega
        rw [E];clear E
        go_enter Tryz.func105,Tryz.ntmps105
        go_wp2
        go_ret
        exact ⟨rfl,rfl⟩
  · have E:scalB r = false:=by simp [scalB];omega
    rw [E];clear E
    have h3:¬ 57343 < r:=by omega
    go_enter Tryz.func105,Tryz.ntmps105
    go_wp2
    go_ret
    exact ⟨rfl,rfl⟩
theorem scalB_nat {r:Int} (h:scalB r = true):∃ n:Nat,r = n ∧ Scal n:=by
  have:=of_decide_eq_true h
  exact ⟨r.toNat,by omega,by unfold Scal;omega⟩
set_option maxRecDepth 100000 in
set_option maxHeartbeats 2000000 in
theorem wide_any (c:Nat) (w:World) (hc:c < 256):Calls Tryz.prog 87 #[.int .u8 c] w fun e w'=>e = .returned (.int .i64 (wd c:Nat)) ∧ w = w':=by
  have h:(c < 128 ∧ wd c = 1) ∨ (128 ≤ c ∧ c < 194 ∧ wd c = 0) ∨ (194 ≤ c ∧ c ≤ 223 ∧ wd c = 2) ∨ (224 ≤ c ∧ c ≤ 239 ∧ wd c = 3) ∨ (240 ≤ c ∧ c ≤ 244 ∧ wd c = 4) ∨ (245 ≤ c ∧ wd c = 0):=by
    unfold wd;(repeat' split) <;> omega
  rcases h with ⟨a,e⟩ | ⟨a,b,e⟩ | ⟨a,b,e⟩ | ⟨a,b,e⟩ | ⟨a,b,e⟩ | ⟨a,e⟩
  all_goals
    rw [e];clear e
    go_enter Tryz.func87,Tryz.ntmps87
    go_wp2
    go_ret
    exact ⟨rfl,rfl⟩
theorem secB_ok (c d:Nat):secB c d = okb c 1 d:=by simp [secB,okb]
set_option maxRecDepth 100000 in
theorem second_any (c d:Nat) (w:World) (hc:c < 256) (hd:d < 256):Calls Tryz.prog 88 #[.int .u8 c,.int .u8 d] w fun e w'=>e = .returned (.bool (secB c d)) ∧ w = w':=by
  by_cases hd1:d < 128 ∨ 191 < d
  · have E:secB c d = false:=sc0 c hc d hd hd1
    rw [E];clear E
    rcases hd1 with h | h
    · go_enter Tryz.func88,Tryz.ntmps88
      go_wp2
      go_ret
      exact ⟨rfl,rfl⟩
    · go_enter Tryz.func88,Tryz.ntmps88
      go_wp2
      go_ret
      exact ⟨rfl,rfl⟩
  · have h128:128 ≤ d:=by omega
    have h191:d ≤ 191:=by omega
    clear hd1
    by_cases h1:c = 224
    · subst h1
      go_enter Tryz.func88,Tryz.ntmps88
      go_wp2
      go_ret
      exact ⟨ret_bool (by simp [secB,lo,hi,h128,h191] <;> omega),rfl⟩
    by_cases h2:c = 237
    · subst h2
      go_enter Tryz.func88,Tryz.ntmps88
      go_wp2
      go_ret
      exact ⟨ret_bool (by simp [secB,lo,hi,h128,h191] <;> omega),rfl⟩
    by_cases h3:c = 240
    · subst h3
      go_enter Tryz.func88,Tryz.ntmps88
      go_wp2
      go_ret
      exact ⟨ret_bool (by simp [secB,lo,hi,h128,h191] <;> omega),rfl⟩
    by_cases h4:c = 244
    · subst h4
      go_enter Tryz.func88,Tryz.ntmps88
      go_wp2
      go_ret
      exact ⟨ret_bool (by simp [secB,lo,hi,h128,h191] <;> omega),rfl⟩
    have e1:((c:Int) == 224) = false:=by simp;omega
    have e2:((c:Int) == 237) = false:=by simp;omega
    have e3:((c:Int) == 240) = false:=by simp;omega
    have e4:((c:Int) == 244) = false:=by simp;omega
    have E:secB c d = true:=sc1 c hc ⟨h1,h2,h3,h4⟩ d hd ⟨h128,h191⟩
    rw [E];clear E
    go_enter Tryz.func88,Tryz.ntmps88
    go_wp2
    go_ret
    exact ⟨rfl,rfl⟩
end Go.Proofs.YtgmholdkdppbmaaGreatDoor

namespace Go.Proofs.YtgmholdkdppbmaaGreatDoor
open Go.RowKit
def RV (w:World) (B:Nat) (A:Option Addr) (n:Nat) (xs:List Value):Prop :=
  xs.length = n ∧ (0 < n → ∃ g o,A = some ⟨g,o,none⟩ ∧ g < B ∧ ∀ j (h:j < xs.length),w.cell? ⟨g,o + j,none⟩ = some xs[j])
theorem RV.nil (w:World) (B:Nat) (A:Option Addr):RV w B A 0 []:=⟨rfl,fun h=>absurd h (by omega)⟩
theorem RV.keep {w w':World} {B:Nat} {A:Option Addr} {n:Nat} {xs:List Value} (h:RV w B A n xs) (hk:∀ g o,A = some ⟨g,o,none⟩ → g < B → ∀ j,w'.cell? ⟨g,j,none⟩ = w.cell? ⟨g,j,none⟩):RV w' B A n xs :=
  ⟨h.1,fun hn=>by
    obtain ⟨g,o,hA,hg,hc⟩:=h.2 hn
    exact ⟨g,o,hA,hg,fun j hj=>(hk g o hA hg _).trans (hc j hj)⟩⟩
theorem RV.below {w w':World} {B:Nat} {A:Option Addr} {n:Nat} {xs:List Value} (h:RV w B A n xs) (hb:Below B w w'):RV w' B A n xs :=
  h.keep fun g _ _ hg j=>hb.cell (p:=⟨g,j,none⟩) hg
theorem RV.mono {w:World} {B B':Nat} {A:Option Addr} {n:Nat} {xs:List Value} (h:RV w B A n xs) (hB:B ≤ B'):RV w B' A n xs :=
  ⟨h.1,fun hn=>by
    obtain ⟨g,o,hA,hg,hc⟩:=h.2 hn
    exact ⟨g,o,hA,by omega,hc⟩⟩
theorem RV.lt {w:World} {B:Nat} {A:Option Addr} {n:Nat} {xs:List Value} (h:RV w B A n xs):∀ g o,A = some ⟨g,o,none⟩ → 0 < n → g < B:=by
  intro g o hA hn
  obtain ⟨g',o',hA',hg,_⟩:=h.2 hn
  rw [hA] at hA'
  injection hA' with h1
  injection h1 with h1
  omega
theorem RV.but {w w':World} {B b:Nat} {A:Option Addr} {n:Nat} {xs:List Value} (h:RV w B A n xs) (hb:But B b w w') (hne:∀ g o,A = some ⟨g,o,none⟩ → 0 < n → g ≠ b):RV w' B A n xs :=
  ⟨h.1,fun hn=>by
    obtain ⟨g,o,hA,hg,hc⟩:=h.2 hn
    exact ⟨g,o,hA,hg,fun j hj=>(hb.cell (p:=⟨g,o + j,none⟩) hg (hne g o hA hn)).trans (hc j hj)⟩⟩
theorem RB.rv {w:World} {B:Nat} {A:Option Addr} {n:Nat} {bs:List UInt8} (h:RB w B A n bs):RV w B A n (bs.map bv) :=
  ⟨by simpa using h.1,fun hn=>by
    obtain ⟨g,o,hA,hg,hc⟩:=h.2 hn
    exact ⟨g,o,hA,hg,fun j hj=>by simpa using hc j (by simpa using hj)⟩⟩
theorem RV.rb {w:World} {B:Nat} {A:Option Addr} {n:Nat} {bs:List UInt8} (h:RV w B A n (bs.map bv)):RB w B A n bs :=
  ⟨by simpa using h.1,fun hn=>by
    obtain ⟨g,o,hA,hg,hc⟩:=h.2 hn
    exact ⟨g,o,hA,hg,fun j hj=>by have:=hc j (by simpa using hj);rw [List.getElem_map] at this;exact this⟩⟩
structure EI (P:Program) (t e:TypeId) (z:Value) (bytes:Nat):Prop where
  und:P.underlying t = some (.slice e)
  info:∃ i,P.info? e = some i ∧ i.zero = some z ∧ i.size = 1 ∧ i.bytes = bytes
  zc:z.cells = #[z]
  z1:z.oneCell' = true
def OwnR (w:World) (base:Nat) (e:TypeId) (ok:Value → Prop) (v:Value) (n:Nat) (xs:List Value):Prop :=
  xs.length = n ∧
  ((v = .slice none 0 0 ∧ n = 0) ∨
   ∃ (g:Nat) (cap:Nat) (rest:List Value),v = .slice (some ⟨g,0,none⟩) n cap ∧ base ≤ g ∧ Blk w g e (xs ++ rest).toArray ∧ n + rest.length = cap ∧ cap ≤ maxLen ∧ ∀ u ∈ rest,ok u)
section
variable {w w':World} {base:Nat} {e:TypeId} {ok:Value → Prop} {v:Value} {n:Nat} {xs:List Value}
theorem OwnR.nil (w:World) (base:Nat) (e:TypeId) (ok:Value → Prop):OwnR w base e ok (.slice none 0 0) 0 []:=⟨rfl,.inl ⟨rfl,rfl⟩⟩
theorem OwnR.own (h:OwnR w base e ok v n xs):w.ownsRow base e 1 v n xs:=by
  obtain ⟨hl,h⟩:=h
  refine ⟨by simpa using hl,?_⟩
  rcases h with h | ⟨g,cap,rest,hv,hb,hg,hc,hm,_⟩
  · exact .inl h
  · refine .inr ⟨g,cap,_,hv,hb,hg,by omega,hm,by simp;omega,?_⟩
    simp [hl]
theorem OwnR.kept {row:Option Nat} (h:OwnR w base e ok v n xs) (hg:w.grownBy w' row) (hne:v.ownBlock = none ∨ v.ownBlock ≠ row):OwnR w' base e ok v n xs:=by
  refine ⟨h.1,?_⟩
  rcases h.2 with h1 | ⟨g,cap,rest,rfl,hb,hB,hc,hm,hr⟩
  · exact .inl h1
  · refine .inr ⟨g,cap,rest,rfl,hb,?_,hc,hm,hr⟩
    exact hB.grown hg (by rcases hne with h | h <;> simp [Value.ownBlock] at h ⊢;exact h)
theorem OwnR.below (h:OwnR w base e ok v n xs) (hb:Below w.heap.size w w'):OwnR w' base e ok v n xs:=by
  refine ⟨h.1,?_⟩
  rcases h.2 with h1 | ⟨g,cap,rest,rfl,hbg,hB,hc,hm,hr⟩
  · exact .inl h1
  · exact .inr ⟨g,cap,rest,rfl,hbg,hB.below hb hB.lt,hc,hm,hr⟩
theorem OwnR.but {b:Nat} (h:OwnR w base e ok v n xs) (hb:But w.heap.size b w w') (hne:v.ownBlock ≠ some b):OwnR w' base e ok v n xs :=
  h.kept hb.grownBy (.inr hne)
theorem OwnR.lt (h:OwnR w base e ok v n xs):∀ k,v.ownBlock = some k → base ≤ k ∧ k < w.heap.size:=h.own.lt
theorem OwnR.apart {g:Nat} {t:TypeId} {cs:Array Value} (h:OwnR w base e ok v n xs) (hg:Blk w g t cs) (hne:e ≠ t):v.ownBlock ≠ some g:=own_apart h.own hg hne
theorem OwnR.shape (h:OwnR w base e ok v n xs):∃ A c,v = .slice A n c ∧ n ≤ c:=own_shape h.own
theorem OwnR.rv {A:Option Addr} {c:Nat} (h:OwnR w base e ok (.slice A n c) n xs):RV w w.heap.size A n xs:=by
  refine ⟨h.1,fun hn=>?_⟩
  rcases h.2 with ⟨_,h0⟩ | ⟨g,cap,rest,hv,_,hg,hc,_⟩
  · omega
  · injection hv with hA hn' hc'
    subst hA
    refine ⟨g,0,rfl,hg.lt,fun j hj=>?_⟩
    rw [hg.cell,Nat.zero_add]
    simp only [List.getElem?_toArray]
    rw [List.getElem?_append_left hj,List.getElem?_eq_getElem hj]
theorem OwnR.of_blk {g cap:Nat} {rest:List Value} (hl:xs.length = n) (hb:base ≤ g) (hg:Blk w g e (xs ++ rest).toArray) (hc:n + rest.length = cap) (hm:cap ≤ maxLen) (hr:∀ u ∈ rest,ok u) :
    OwnR w base e ok (.slice (some ⟨g,0,none⟩) n cap) n xs:=⟨hl,.inr ⟨g,cap,rest,rfl,hb,hg,hc,hm,hr⟩⟩
theorem OwnR.set1 {g cap:Nat} (h:OwnR w base e ok (.slice (some ⟨g,0,none⟩) n cap) n xs) (i:Nat) (hi:i < n) (u:Value) :
    OwnR (w.setCell ⟨g,i,none⟩ u) base e ok (.slice (some ⟨g,0,none⟩) n cap) n (xs.set i u):=by
  refine ⟨by simpa using h.1,?_⟩
  rcases h.2 with ⟨hv,_⟩ | ⟨g',cap',rest,hv,hb,hB,hc,hm,hr⟩
  · cases hv
  · injection hv with hA _ hc'
    injection hA with hA
    injection hA with hA
    subst hA hc'
    refine .inr ⟨g,cap,rest,rfl,hb,?_,hc,hm,hr⟩
    have:=hB.set1 i u
    have hl:=h.1
    have e:(xs ++ rest).toArray.setIfInBounds i u = (xs.set i u ++ rest).toArray:=by
      simp only [List.setIfInBounds_toArray]
      congr 1
      rw [List.set_append_left _ _ (by omega)]
    rwa [e] at this
theorem OwnR.frozen {g cap i:Nat} (h:OwnR w base e ok (.slice (some ⟨g,0,none⟩) n cap) n xs):w.frozen? ⟨g,i,none⟩ = false:=by
  rcases h.2 with ⟨hv,_⟩ | ⟨g',cap',rest,hv,hb,hB,hc,hm,hr⟩
  · cases hv
  · injection hv with hA _ hc'
    injection hA with hA
    injection hA with hA
    subst hA
    exact hB.frozen i
theorem OwnR.cut {g cap k:Nat} (h:OwnR w base e ok (.slice (some ⟨g,0,none⟩) n cap) n xs) (hk:k ≤ n) (hx:∀ u ∈ xs,ok u) :
    OwnR w base e ok (.slice (some ⟨g,0,none⟩) k cap) k (xs.take k):=by
  have hl:=h.1
  rcases h.2 with ⟨hv,_⟩ | ⟨g',cap',rest,hv,hb,hB,hc,hm,hr⟩
  · cases hv
  · injection hv with hA _ hc'
    injection hA with hA
    injection hA with hA
    subst hA hc'
    refine ⟨by simp;omega,.inr ⟨g,cap,xs.drop k ++ rest,rfl,hb,?_,by simp;omega,hm,?_⟩⟩
    · rw [← List.append_assoc,List.take_append_drop];exact hB
    · intro u hu
      rcases List.mem_append.1 hu with h1 | h1
      · exact hx u (List.mem_of_mem_drop h1)
      · exact hr u h1
end
theorem zeroCells_list (z:Value) (n:Nat) (hz:z.cells = #[z]):Builtin.zeroCells z.cells n = (List.replicate n z).toArray:=by
  rw [hz]
  apply Array.ext
  · simp [Builtin.zeroCells]
  · intro i h1 h2
    simp [Builtin.zeroCells,Nat.mod_one]
section
variable {P:Program} {t e:TypeId} {z:Value} {bytes:Nat} {ok:Value → Prop}
theorem run_app (E:EI P t e z bytes) (okz:ok z) (w:World) (ty:TypeId) (base:Nat) (v:Value) (n:Nat) (xs:List Value) (hown:OwnR w base e ok v n xs)
    (B:Nat) (A:Option Addr) (m c:Nat) (news:List Value) (hr:RV w B A m news) (h1:∀ u ∈ news,u.oneCell' = true) (h63:n + m ≤ 1000000000000000000) (hbytes:(n + m) * bytes ≤ 140737488355328) (hbase:base ≤ w.heap.size) :
    ∃ A' cap w',(Builtin.append_ #[t,t] ty #[v,.slice A m c]).run P w = .ok (.slice A' (n + m) cap) w' ∧ OwnR w' base e ok (.slice A' (n + m) cap) (n + m) (xs ++ news) ∧ w.grownBy w' v.ownBlock ∧
      ((Value.slice A' (n + m) cap).ownBlock = v.ownBlock ∨ (Value.slice A' (n + m) cap).ownBlock = some w.heap.size):=by
  obtain ⟨i,hi,hz,hsize,hby⟩:=E.info
  have ht:=E.und
  have hzs:=E.zc
  obtain ⟨hl,h⟩:=hown
  have hml:=hr.1
  have e1:(xs ++ news).length = n + m:=by simp [hl,hml]
  have hmx:n + m ≤ maxLen:=by unfold maxLen;omega
  by_cases hm:m = 0
  · subst hm
    obtain rfl:news = []:=List.eq_nil_of_length_eq_zero hml
    have hrun:(Builtin.append_ #[t,t] ty #[v,.slice A 0 c]).run P w = .ok v w:=by
      rcases h with ⟨rfl,rfl⟩ | ⟨g,cap,rest,rfl,_,_,hc,_⟩
      · cases A <;> simp [Builtin.append_,run_underlying ht,sizeOf,typeInfo,hi,Builtin.lenOf,Builtin.firstCells,loadCells,loadCellsFrom]
      · cases A <;> simp [Builtin.append_,run_underlying ht,sizeOf,typeInfo,hi,Builtin.lenOf,Builtin.firstCells,loadCells,loadCellsFrom,storeCells,show n ≤ cap by omega]
    rcases h with ⟨rfl,rfl⟩ | ⟨g,cap,rest,rfl,h2,h3,h4,h5,h6⟩
    · exact ⟨none,0,w,hrun,by rw [List.append_nil];exact ⟨hl,.inl ⟨rfl,rfl⟩⟩,World.grownBy.refl w _,.inl rfl⟩
    · exact ⟨_,cap,w,hrun,by rw [List.append_nil];exact ⟨hl,.inr ⟨g,cap,rest,rfl,h2,h3,h4,h5,h6⟩⟩,World.grownBy.refl w _,.inl rfl⟩
  · obtain ⟨g0,o0,rfl,_,hcell⟩:=hr.2 (by omega)
    have hnews:∀ j u,news[j]? = some u → w.cell? ((⟨g0,o0,none⟩:Addr).add j) = some u:=by
      intro j u hj
      have hadd:(⟨g0,o0,none⟩:Addr).add j = ⟨g0,o0 + j,none⟩:=by unfold Addr.add;split <;> simp_all
      obtain ⟨hjl,rfl⟩:=List.getElem?_eq_some_iff.1 hj
      rw [hadd]
      exact hcell j hjl
    have hl1:news.length = m * i.size:=by rw [hsize,Nat.mul_one];exact hml
    have fresh:∀ old,OwnR (w.drew.alloc (.cells (xs.toArray ++ news.toArray ++ Builtin.zeroCells z.cells (grownCap w (n + m) old e - (n + m))) e)) base e ok
          (.slice (some ⟨w.heap.size,0,none⟩) (n + m) (grownCap w (n + m) old e)) (n + m) (xs ++ news) ∧
        ∀ row,w.grownBy (w.drew.alloc (.cells (xs.toArray ++ news.toArray ++ Builtin.zeroCells z.cells (grownCap w (n + m) old e - (n + m))) e)) row:=by
      intro old
      have hge:=grownCap_ge w (n + m) old e
      have hcm:=grownCap_le_maxLen w (n + m) old e hmx
      refine ⟨⟨e1,.inr ⟨w.heap.size,_,List.replicate (grownCap w (n + m) old e - (n + m)) z,rfl,hbase,?_,by simp;omega,hcm,?_⟩⟩,fun row=>⟨rfl,rfl,rfl,by simp,fun k hk _=>Below.heap_alloc w.drew _ k hk⟩⟩
      · rw [zeroCells_list z _ hzs]
        have:xs.toArray ++ news.toArray ++ (List.replicate (grownCap w (n + m) old e - (n + m)) z).toArray = (xs ++ news ++ List.replicate (grownCap w (n + m) old e - (n + m)) z).toArray:=by simp
        rw [this]
        exact heap_alloc_new w.drew _
      · intro u hu
        rw [(List.mem_replicate.1 hu).2]
        exact okz
    rcases h with ⟨rfl,rfl⟩ | ⟨g,cap,rest,rfl,hbg,hB,hcr,hcm,hok⟩
    · obtain rfl:xs = []:=List.eq_nil_of_length_eq_zero hl
      have hr:=run_append_nil (P:=P) w t ty e i z ht hi hz ⟨g0,o0,none⟩ m c news hl1 hnews (by omega) (by omega) (by have hb:=hbytes;rw [Nat.zero_add] at hb;rw [hby];omega)
      obtain ⟨f2,f3⟩:=fresh 0
      simp only [Array.empty_append,Nat.zero_add,List.nil_append] at f2 f3 hr ⊢
      exact ⟨_,_,_,hr,f2,f3 _,.inr rfl⟩
    · by_cases hroom:n + m ≤ cap
      · have hr:=run_append_room (P:=P) w t ty e i ht hi g n cap _ hB ⟨g0,o0,none⟩ m c news hl1 hnews h1 hroom (by rw [hsize];simp;omega)
        refine ⟨_,_,_,hr,⟨e1,.inr ⟨g,cap,rest.drop m,rfl,hbg,?_,by simp;omega,hcm,fun u hu=>hok u (List.mem_of_mem_drop hu)⟩⟩,⟨rfl,rfl,rfl,by simp,fun k _ hk=>setRow_other w g k _ (fun e=>hk (by simp [Value.ownBlock,e]))⟩,.inl rfl⟩
        have hs:=setRow_heap w g _ (((xs ++ rest).toArray.toList.take (n * i.size) ++ news ++ (xs ++ rest).toArray.toList.drop (n * i.size + news.length)).toArray) _ _ hB
        have e2:((xs ++ rest).toArray.toList.take (n * i.size) ++ news ++ (xs ++ rest).toArray.toList.drop (n * i.size + news.length)) = xs ++ news ++ rest.drop m:=by
          rw [hsize]
          subst hl hml
          simp only [Nat.mul_one]
          rw [List.take_left' rfl,List.drop_append]
          simp
        rw [e2] at hs ⊢
        exact hs
      · obtain ⟨hx1,hx2⟩:n ≤ cap ∧ cap < n + m:=by omega
        have holds:∀ j u,xs[j]? = some u → w.cell? ((⟨g,0,none⟩:Addr).add j) = some u:=by
          intro j u hj
          have hadd:(⟨g,0,none⟩:Addr).add j = ⟨g,j,none⟩:=by unfold Addr.add;split <;> simp_all
          rw [hadd,hB.cell]
          obtain ⟨hjl,_⟩:=List.getElem?_eq_some_iff.1 hj
          rw [List.getElem?_toArray,List.getElem?_append_left hjl]
          exact hj
        have hr:=run_append_grow (P:=P) w t ty e i z ht hi hz ⟨g,0,none⟩ n cap xs (by rw [hsize];simpa using hl) holds ⟨g0,o0,none⟩ m c news hl1 hnews hx2 (by omega) (growslice_fits (by omega) (by rw [hby];exact hbytes))
        obtain ⟨f2,f3⟩:=fresh cap
        exact ⟨_,_,_,hr,f2,f3 _,.inr rfl⟩
theorem wpList_app (E:EI P t e z bytes) (okz:ok z) {ops:Array Oper} {rest:List Oper} {o:Oper} {a:Act} {Q:Exit → Act → World → Prop} {w:World} (hgd:o.guard = none) (s x:Operand)
    (ho:o.op = .call { callee:=.builtin .append,args:=#[s,x],argTypes:=#[t,t] })
    (base:Nat) (v:Value) (n:Nat) (xs:List Value) (hs:a.eval s = v) (hown:OwnR w base e ok v n xs)
    (B:Nat) (A:Option Addr) (m c:Nat) (news:List Value) (hx:a.eval x = .slice A m c) (hr:RV w B A m news) (h1:∀ u ∈ news,u.oneCell' = true) (h63:n + m ≤ 1000000000000000000) (hbytes:(n + m) * bytes ≤ 140737488355328) (hbase:base ≤ w.heap.size)
    (h:∀ A' cap w',OwnR w' base e ok (.slice A' (n + m) cap) (n + m) (xs ++ news) → w.grownBy w' v.ownBlock → ((Value.slice A' (n + m) cap).ownBlock = v.ownBlock ∨ (Value.slice A' (n + m) cap).ownBlock = some w.heap.size) →
      wpList P ops Q rest (a.put o.dst (.slice A' (n + m) cap)) w'):wpList P ops Q (o :: rest) a w:=by
  refine wpList_plain hgd fun K hK=>?_
  obtain ⟨A',cap,w',hr,h1,h2,h3⟩:=run_app E okz w o.type base v n xs hown B A m c news hr h1 h63 hbytes hbase
  unfold Oper.wp execOp
  simp only [ho,resolve,invoke,builtin,Sem.run_bind,Sem.run_pure,Result.andThen_ok,List.map_toArray,List.map_cons,List.map_nil,hs,hx,hr]
  exact hK _ _ (h A' cap w' h1 h2 h3)
def zs (z:Value) (c:Nat):List Value:=List.replicate c z
theorem zs_length (z:Value) (c:Nat):(zs z c).length = c:=by simp [zs]
theorem run_mk (E:EI P t e z bytes) (k1 k2:IntKind) (n c:Nat) (hnc:n ≤ c) (hc:c ≤ 1000000000000000000) (hb:bytes * c ≤ 140737488355328) (w:World) :
    (Instr.makeSlice t (.int k1 (n:Int)) (.int k2 (c:Int))).run P w = .ok (.slice (some ⟨w.heap.size,0,none⟩) n c) (w.alloc (.cells (zs z c).toArray e)):=by
  obtain ⟨i,hi,hz,hsize,hby⟩:=E.info
  have hb:(i.bytes:Int) * (c:Int) ≤ 281474976710656:=by
    have h1:bytes * c ≤ 281474976710656:=by omega
    have h2:(bytes:Int) * (c:Int) = ((bytes * c:Nat):Int):=(Int.natCast_mul _ _).symm
    rw [hby,h2];omega
  have hr:=run_make (P:=P) w t e i z E.und hi hz k1 k2 n c (by omega) (by omega) hb (by omega)
  simp only [Int.toNat_natCast] at hr
  have hcell:madeCells z.cells (c * i.size) = (zs z c).toArray:=by
    rw [hsize,Nat.mul_one,E.zc]
    have:=toList_madeCells_one z c
    exact (Array.toArray_toList (xs:=madeCells #[z] c)).symm.trans (by rw [this];rfl)
  rw [hcell] at hr
  exact hr
theorem made_own (w:World) (base:Nat) (hb:base ≤ w.heap.size) (n c:Nat) (hnc:n ≤ c) (hc:c ≤ 1000000000000000000) (okz:ok z) :
    OwnR (w.alloc (.cells (zs z c).toArray e)) base e ok (.slice (some ⟨w.heap.size,0,none⟩) n c) n (zs z n):=by
  refine .of_blk (rest:=zs z (c - n)) (zs_length z n) hb ?_ (by rw [zs_length];omega) (by unfold maxLen;omega) (fun u hu=>by rw [(List.mem_replicate.1 hu).2];exact okz)
  have:zs z n ++ zs z (c - n) = zs z c:=by unfold zs;rw [List.replicate_append_replicate];congr 1;omega
  rw [this]
  exact Blk.new w e _
end
end Go.Proofs.YtgmholdkdppbmaaGreatDoor

namespace Go.Proofs.YtgmholdkdppbmaaGreatDoor
open Go.RowKit
abbrev eno (n:Int):Value:=.iface 30 (.int .i64 n)
abbrev spotE (no at_:Int):Value:=.iface 95 (.agg #[.int .i64 no,.int .i64 at_])
def BM (w:World) (g:Nat) (l:List UInt8):Prop:=w.heap[g]? = some (.cells (l.map bv).toArray 5 (l.length,l.length + 1))
theorem BM.lt {w:World} {g:Nat} {l:List UInt8} (h:BM w g l):g < w.heap.size:=by
  rcases Nat.lt_or_ge g w.heap.size with hlt | hge
  · exact hlt
  · unfold BM at h;rw [Array.getElem?_eq_none hge] at h;cases h
theorem BM.cell {w:World} {g:Nat} {l:List UInt8} (h:BM w g l) (i:Nat) (hi:i < l.length):w.cell? ⟨g,i,none⟩ = some (bv l[i]):=by
  rw [cell_of_row w g i _ _ _ h];simp [hi]
theorem BM.frozen {w:World} {g:Nat} {l:List UInt8} (h:BM w g l) (i:Nat) (hi:i < l.length):w.frozen? ⟨g,i,none⟩ = false:=by
  unfold BM at h
  simp [World.frozen?,h]
  omega
theorem BM.below {w w':World} {B g:Nat} {l:List UInt8} (h:BM w g l) (hb:Below B w w') (hg:g < B):BM w' g l:=(hb.block g hg).trans h
theorem BM.set {w:World} {g:Nat} {l:List UInt8} (h:BM w g l) (i:Nat) (b:UInt8):BM (w.setCell ⟨g,i,none⟩ (bv b)) g (l.set i b):=by
  unfold BM at h ⊢
  simp [World.setCell,Array.getElem?_modify,h]
theorem BM.rb {w:World} {g:Nat} {l:List UInt8} (h:BM w g l) (n:Nat) (hn:n ≤ l.length):RB w (g + 1) (some ⟨g,0,none⟩) n (l.take n) :=
  ⟨by simp;omega,fun _=>⟨g,0,rfl,by omega,fun j hj=>by rw [Nat.zero_add,h.cell j (by simp at hj;omega)];simp⟩⟩
theorem bytesCells_eq (w:World) (s:List UInt8):Lib.bytesCells w 5 ⟨s.toArray⟩ = ((s ++ List.replicate (grownCap w s.length 0 5 - s.length) 0).map bv).toArray:=by
  apply Array.ext'
  have hsz:(⟨s.toArray⟩:ByteArray).size = s.length:=rfl
  rw [Lib.bytesCells,hsz]
  simp [bv]
theorem bytes_BM (w:World) (s:List UInt8):BM (Lib.bytesWorld w 5 ⟨s.toArray⟩) w.heap.size (s ++ List.replicate (grownCap w s.length 0 5 - s.length) 0):=by
  have h:=Lib.bytesWorld_at_new w 5 ⟨s.toArray⟩
  rw [bytesCells_eq] at h
  unfold BM
  rw [h]
  simp
theorem run_tobytes (w:World) (s:List UInt8) :
    (convert 9 22 (.string ⟨s.toArray⟩)).run Tryz.prog w = .ok (.slice (some ⟨w.heap.size,0,none⟩) s.length (grownCap w s.length 0 5)) (Lib.bytesWorld w 5 ⟨s.toArray⟩) :=
  Lib.run_convert_string_bytes (P:=Tryz.prog) w 9 22 5 ⟨s.toArray⟩ Tryz.underlying9 Tryz.underlying22 Tryz.underlying5
def NewB (s:List UInt8) (w:World) (v:Value) (w':World):Prop :=
  ∃ l:List UInt8,v = .slice (some ⟨w.heap.size,0,none⟩) s.length l.length ∧ l.take s.length = s ∧ s.length ≤ l.length ∧ l.length ≤ maxLen ∧ BM w' w.heap.size l ∧ Below w.heap.size w w'
theorem newB (w:World) (s:List UInt8) (h:s.length ≤ 1000000000000000000):NewB s w (.slice (some ⟨w.heap.size,0,none⟩) s.length (grownCap w s.length 0 5)) (Lib.bytesWorld w 5 ⟨s.toArray⟩):=by
  have hge:=grownCap_ge w s.length 0 5
  have hle:=grownCap_le_maxLen w s.length 0 5 (by unfold maxLen;omega)
  have hl:(s ++ List.replicate (grownCap w s.length 0 5 - s.length) (0:UInt8)).length = grownCap w s.length 0 5:=by simp;omega
  exact ⟨_,by rw [hl],by simp,by rw [hl];exact hge,by rw [hl];exact hle,bytes_BM w s,below_bytesWorld w 5 ⟨s.toArray⟩⟩
def EncPost (r:Int) (w:World) (e:Ending) (w':World):Prop :=
  (scalB r = false → e = .returned (.tuple #[.slice none 0 0,eno 2]) ∧ Below w.heap.size w w') ∧
  (∀ n:Nat,r = n → Scal n → ∃ v,e = .returned (.tuple #[v,.nilIface]) ∧ NewB (enc n) w v w')
theorem enc_le (n:Nat):(enc n).length ≤ 4:=by rw [enc_length];(repeat' split) <;> omega
set_option maxRecDepth 100000 in
theorem encode_any (r:Int) (w:World):Calls Tryz.prog 117 #[.int .i32 r] w (EncPost r w):=by
  have hc:=fun W=>character_any r W
  by_cases h:scalB r = true
  · obtain ⟨n,rfl,hn⟩:=scalB_nat h
    rw [h] at hc
    have hk:∀ W,(convert 9 22 (.string (Utf8.encode (n:Int)))).run Tryz.prog W = .ok (.slice (some ⟨W.heap.size,0,none⟩) (enc n).length (grownCap W (enc n).length 0 5)) (Lib.bytesWorld W 5 ⟨(enc n).toArray⟩):=fun W=>by
      rw [enc_model hn];exact run_tobytes W (enc n)
    have HNB:=Lib.hid (newB w (enc n) (by have:=enc_le n;omega))
    have HC:=Lib.hid hc
    have H:=Lib.hid h
    clear h hn hc
    go_enter Tryz.func117,Tryz.ntmps117
    go_wp2_with (go_at_call 133;refine (HC.out _).mono ?_;rintro e w' ⟨rfl,rfl⟩)
    go_ret2
    refine ⟨fun h=>?_,fun m hm _=>?_⟩
    · rw [H.out] at h;cases h
    · obtain rfl:n = m:=by omega
      exact ⟨_,rfl,HNB.out⟩
  · have h:scalB r = false:=by simpa using h
    rw [h] at hc
    have HC:=Lib.hid hc
    have H:=Lib.hid h
    clear h hc
    go_enter Tryz.func117,Tryz.ntmps117
    go_wp2_with (go_at_call 133;refine (HC.out _).mono ?_;rintro e w' ⟨rfl,rfl⟩)
    go_ret2
    refine ⟨fun _=>⟨rfl,Below.refl _ _⟩,fun m hm hs=>?_⟩
    have:=H.out
    subst hm
    unfold Scal at hs
    simp [scalB] at this
    omega
end Go.Proofs.YtgmholdkdppbmaaGreatDoor

namespace Go.Proofs.YtgmholdkdppbmaaGreatDoor
open Go.RowKit
def fcells (p:Nat) (hs:List UInt8) (m:Nat) (bad:Bool):Array Value:=([Value.int .i64 p] ++ hs.map bv ++ [Value.int .i64 m,Value.bool bad]).toArray
theorem fcells_0 (p:Nat) (hs:List UInt8) (m:Nat) (bad:Bool):(fcells p hs m bad)[0]? = some (.int .i64 p):=by simp [fcells]
theorem fcells_h (p:Nat) (hs:List UInt8) (m:Nat) (bad:Bool) (j:Nat) (h:j < hs.length):(fcells p hs m bad)[1 + j]? = some (bv hs[j]):=by
  unfold fcells
  rw [List.getElem?_toArray,List.append_assoc,List.getElem?_append_right (by simp <;> omega),List.getElem?_append_left (by simp <;> omega)]
  simp [h]
theorem fcells_m (p:Nat) (hs:List UInt8) (m:Nat) (bad:Bool) (hl:hs.length = 4):(fcells p hs m bad)[5]? = some (.int .i64 m) ∧ (fcells p hs m bad)[6]? = some (.bool bad):=by
  unfold fcells
  rw [List.getElem?_toArray,List.getElem?_toArray,List.getElem?_append_right (by simp;omega),List.getElem?_append_right (by simp;omega)]
  simp [hl]
theorem fcells_set0 (p q:Nat) (hs:List UInt8) (m:Nat) (bad:Bool):(fcells p hs m bad).setIfInBounds 0 (.int .i64 q) = fcells q hs m bad:=by simp [fcells]
theorem fcells_seth (p:Nat) (hs:List UInt8) (m:Nat) (bad:Bool) (j:Nat) (h:j < hs.length) (c:UInt8):(fcells p hs m bad).setIfInBounds (1 + j) (bv c) = fcells p (hs.set j c) m bad:=by
  unfold fcells
  rw [List.setIfInBounds_toArray,List.append_assoc,List.append_assoc,List.set_append_right _ _ (by simp),List.length_singleton,Nat.add_sub_cancel_left,List.set_append_left _ _ (by simp;exact h),List.map_set]
theorem fcells_setm (p:Nat) (hs:List UInt8) (m q:Nat) (bad:Bool) (hl:hs.length = 4):(fcells p hs m bad).setIfInBounds 5 (.int .i64 q) = fcells p hs q bad:=by
  unfold fcells
  rw [List.setIfInBounds_toArray,List.set_append_right _ _ (by simp;omega)]
  simp [hl]
theorem fcells_setb (p:Nat) (hs:List UInt8) (m:Nat) (bad q:Bool) (hl:hs.length = 4):(fcells p hs m bad).setIfInBounds 6 (.bool q) = fcells p hs m q:=by
  unfold fcells
  rw [List.setIfInBounds_toArray,List.set_append_right _ _ (by simp;omega)]
  simp [hl]
def FB (w:World) (b:Nat) (f:Fd):Prop:=∃ hs:List UInt8,hs.length = 4 ∧ hs.take f.held.length = f.held ∧ f.held.length < 4 ∧ Blk w b 140 (fcells f.place hs f.held.length f.bad)
def HOk (h:List UInt8):Prop:=match h with | []=>True | a :: l=>l.length + 1 < wd a.toNat
def Fok (f:Fd):Prop:=HOk f.held
theorem HOk.lt {h:List UInt8} (hf:HOk h):h.length < 4:=by
  cases h with
  | nil=>simp
  | cons a l=>have h1:l.length + 1 < wd a.toNat:=hf;have:=wd_le a.toNat;simp;omega
theorem tk_ok {h h':List UInt8} {c:UInt8} (hf:HOk h) (he:tk h c = some h'):HOk h':=by
  cases h with
  | nil =>
    unfold tk at he
    simp only at he
    split at he
    · cases he
    · split at he
      · injection he with he;subst he;trivial
      · injection he with he;subst he;show 0 + 1 < wd c.toNat;omega
  | cons a l =>
    have h1:l.length + 1 < wd a.toNat:=hf
    unfold tk at he
    simp only at he
    split at he
    · split at he
      · injection he with he;subst he;trivial
      · injection he with he;subst he;show (l ++ [c]).length + 1 < wd a.toNat;simp;omega
    · cases he
theorem fstep_ok {f:Fd} {c:UInt8} (hf:Fok f):Fok (fstep f c):=by
  unfold fstep
  split
  · exact hf
  · cases he:tk f.held c with
    | none=>trivial
    | some h=>exact tk_ok (h:=f.held) hf he
theorem frun_ok {f:Fd} (hf:Fok f):∀ bs,Fok (frun f bs):=by
  refine snoc_ind hf ?_
  intro bs c ih
  rw [frun_snoc]
  exact fstep_ok ih
theorem frun_bad {f:Fd} (hb:f.bad = true):∀ bs,frun f bs = f:=by
  refine snoc_ind rfl ?_
  intro bs c ih
  rw [frun_snoc,ih,fstep,if_pos hb]
theorem fstep_good {f:Fd} {c:UInt8} {h:List UInt8} (hb:f.bad = false) (he:tk f.held c = some h):fstep f c = ⟨f.place + 1,h,false⟩:=by
  unfold fstep;rw [if_neg (by rw [hb];decide),he]
theorem fstep_fail {f:Fd} {c:UInt8} (hb:f.bad = false) (he:tk f.held c = none):fstep f c = ⟨f.place,[],true⟩:=by
  unfold fstep;rw [if_neg (by rw [hb];decide),he]
theorem FB.lt {w:World} {b:Nat} {f:Fd} (h:FB w b f):b < w.heap.size:=by obtain ⟨hs,_,_,_,hb⟩:=h;exact hb.lt
theorem FB.below {w w':World} {B b:Nat} {f:Fd} (h:FB w b f) (hb:Below B w w') (hlt:b < B):FB w' b f:=by
  obtain ⟨hs,h1,h2,h3,hk⟩:=h
  exact ⟨hs,h1,h2,h3,hk.below hb hlt⟩
theorem FB.drew {w:World} {b:Nat} {f:Fd} (h:FB w b f):FB w.drew b f:=h
theorem FB.drewN {w:World} {b:Nat} {f:Fd} (h:FB w b f) (n:Nat):FB (w.drewN n) b f:=h
end Go.Proofs.YtgmholdkdppbmaaGreatDoor

namespace Go.Proofs.YtgmholdkdppbmaaGreatDoor
open Go.RowKit
theorem RB.cut {w:World} {B g o n:Nat} {s:List UInt8} (h:RB w B (some ⟨g,o,none⟩) n s) (i j:Nat) (hij:i + j ≤ n):RB w B (some ⟨g,o + i,none⟩) j ((s.drop i).take j):=by
  have hl:=h.1
  refine ⟨by simp;omega,fun hj=>?_⟩
  obtain ⟨g',o',hA,hg,hc⟩:=h.2 (by omega)
  injection hA with hA
  injection hA with h1 h2
  subst h1 h2
  refine ⟨g,o + i,rfl,hg,fun k hk=>?_⟩
  have hk':k < j:=by simp at hk;omega
  rw [Nat.add_assoc,hc (i + k) (by omega)]
  simp
theorem f256 (c:Nat):flo c < 256 ∧ fhi c < 256:=by unfold flo fhi lo hi;constructor <;> (repeat' split) <;> omega
end Go.Proofs.YtgmholdkdppbmaaGreatDoor

namespace Go.Proofs.YtgmholdkdppbmaaGreatDoor
open Go.RowKit
attribute [local go_sem ↓] Go.wp_at_zero Go.wp_at_succ
def TakePost (b:Nat) (f:Fd) (c:UInt8) (w:World) (e:Ending) (w':World):Prop :=
  (∀ h,tk f.held c = some h → e = .returned (.bool true) ∧ FB w' b ⟨f.place,h,f.bad⟩) ∧ (tk f.held c = none → e = .returned (.bool false) ∧ FB w' b f) ∧ But w.heap.size b w w'
set_option maxRecDepth 100000 in
set_option maxHeartbeats 1000000 in
theorem take_nil (b:Nat) (f:Fd) (c:UInt8) (w:World) (hf:FB w b f) (hh:f.held = []) :
    Calls Tryz.prog 82 #[.pointer (some ⟨b,0,none⟩),bv c] w (TakePost b f c w):=by
  obtain ⟨hs,h1,h2,h3,hk⟩:=hf
  rw [hh] at h2 h3 hk
  have hblt:=hk.lt
  have hz:(([]:List UInt8).length:Nat) = 0:=rfl
  rw [hz] at hk
  have c2:=hk.cell 5
  rw [(fcells_m _ _ _ _ h1).1] at c2
  obtain ⟨x0,c1⟩:∃ x0,w.cell? ⟨b,1,none⟩ = some (bv x0):=⟨hs[0],(hk.cell 1).trans (fcells_h _ _ _ _ 0 (by omega))⟩
  have f1:=hk.frozen 1
  have f5:=hk.frozen 5
  have HK:=Lib.hid hk
  have HF:=Lib.hid (fun W=>formOf_any c.toNat W (UInt8.toNat_lt c))
  unfold formV at HF
  have HH:=Lib.hid hh
  have H1:=Lib.hid h1
  clear h1 h2 h3 hk hh hz
  by_cases h0:wd c.toNat = 0
  · have ht:tk f.held c = none:=by rw [HH.out];simp [tk,h0]
    have HT:=Lib.hid ht
    rw [h0] at HF
    clear ht h0
    generalize flo c.toNat = l at *
    generalize fhi c.toNat = h at *
    go_enter Tryz.func82,Tryz.ntmps82
    go_wp2_with (go_at_call 102;(with_reducible refine (HF.out _).mono ?_);rintro e w1 ⟨rfl,hb1⟩)
    go_ret
    have hbel:Below w.heap.size w (w1.alloc (.cells #[.int .i64 0,.int .u8 l,.int .u8 h] 199)):=hb1.alloc hb1.size _
    exact ⟨(fun h he=>by rw [HT.out] at he;cases he),fun _=>⟨rfl,⟨hs,H1.out,by rw [HH.out];rfl,by rw [HH.out];decide,by rw [HH.out];exact HK.out.below hbel hblt⟩⟩,But.of_below hbel⟩
  · by_cases h1:wd c.toNat = 1
    · have ht:tk f.held c = some []:=by rw [HH.out];simp [tk,h0,h1]
      have HT:=Lib.hid ht
      rw [h1] at HF
      clear ht h0 h1
      generalize flo c.toNat = l at *
      generalize fhi c.toNat = h at *
      go_enter Tryz.func82,Tryz.ntmps82
      go_wp2_with (go_at_call 102;(with_reducible refine (HF.out _).mono ?_);rintro e w1 ⟨rfl,hb1⟩)
      go_ret
      have hbel:Below w.heap.size w (w1.alloc (.cells #[.int .i64 1,.int .u8 l,.int .u8 h] 199)):=hb1.alloc hb1.size _
      refine ⟨fun h' he=>?_,(fun he=>by rw [HT.out] at he;cases he),But.of_below hbel⟩
      rw [HT.out] at he
      injection he with he
      subst he
      exact ⟨rfl,⟨hs,H1.out,rfl,(show (0:Nat) < 4 by decide),HK.out.below hbel hblt⟩⟩
    · have ht:tk f.held c = some [c]:=by rw [HH.out];simp [tk,h0,h1]
      have HT:=Lib.hid ht
      have hn:2 ≤ wd c.toNat:=by omega
      have hn4:=wd_le c.toNat
      have z0:((wd c.toNat:Int) == 0) = false:=by simp;omega
      clear ht h0 h1
      generalize wd c.toNat = n at *
      generalize flo c.toNat = l at *
      generalize fhi c.toNat = h at *
      go_enter Tryz.func82,Tryz.ntmps82
      go_wp2_with (go_at_call 102;(with_reducible refine (HF.out _).mono ?_);rintro e w1 ⟨rfl,hb1⟩;have q1:=keepc hb1 hblt c1;have q5:=keepc hb1 hblt c2;have p1:=keepf hb1 hblt f1;have p5:=keepf hb1 hblt f5;have hblt1:=keepz hb1 hblt)
      go_ret
      have hk2:=HK.out.below hb1 hblt
      refine ⟨fun h' he=>?_,(fun he=>by rw [HT.out] at he;cases he),(((But.of_below hb1).setCell (p:=⟨b,1,none⟩) (.inl rfl) _).setCell (p:=⟨b,5,none⟩) (.inl rfl) _).alloc (by simp;exact hb1.size) _⟩
      rw [HT.out] at he
      injection he with he
      subst he
      have hk3:=((hk2.set1 (1 + 0) (bv c)).set1 5 (.int .i64 ((1:Nat):Int))).alloc (.cells #[.int .i64 n,.int .u8 l,.int .u8 h] 199)
      rw [fcells_seth _ _ _ _ 0 (by rw [H1.out];decide),fcells_setm _ _ _ _ _ (by rw [List.length_set];exact H1.out)] at hk3
      refine ⟨rfl,⟨hs.set 0 c,by rw [List.length_set];exact H1.out,?_,(show (1:Nat) < 4 by decide),hk3⟩⟩
      obtain ⟨x,y,rfl⟩:∃ x y,hs = x :: y:=by
        cases hs with
        | nil=>have:=H1.out;simp at this
        | cons x y=>exact ⟨x,y,rfl⟩
      simp
theorem tk_cons (a:UInt8) (l:List UInt8) (c:UInt8):tk (a :: l) c = if okb a.toNat (l.length + 1) c.toNat = true then (if l.length + 2 = wd a.toNat then some [] else some (a :: l ++ [c])) else none:=rfl
set_option maxRecDepth 100000 in
set_option maxHeartbeats 2000000 in
theorem take_cons (b:Nat) (f:Fd) (a:UInt8) (l:List UInt8) (c:UInt8) (w:World) (hf:FB w b f) (hh:f.held = a :: l) (hok:l.length + 1 < wd a.toNat) :
    Calls Tryz.prog 82 #[.pointer (some ⟨b,0,none⟩),bv c] w (TakePost b f c w):=by
  obtain ⟨hs,h1,h2,h3,hk⟩:=hf
  rw [hh] at h2 h3 hk
  have hblt:=hk.lt
  obtain ⟨m,hm⟩:∃ m,m = l.length + 1:=⟨_,rfl⟩
  have hml:(a :: l).length = m:=by rw [hm];rfl
  rw [hml] at h2 h3 hk
  rw [← hm] at hok
  have c2:=hk.cell 5
  rw [(fcells_m _ _ _ _ h1).1] at c2
  have c1:w.cell? ⟨b,1,none⟩ = some (bv a):=by
    have:=(hk.cell 1).trans (fcells_h _ _ _ _ 0 (by omega))
    have e:hs[0]'(by omega) = a:=by
      have h4:=congrArg (fun x=>x[0]?) h2
      simp only [List.getElem?_take,List.getElem?_cons_zero] at h4
      rw [if_pos (by omega),List.getElem?_eq_getElem (by omega)] at h4
      injection h4
    rw [e] at this
    exact this
  obtain ⟨x0,cm⟩:∃ x0,w.cell? ⟨b,1 + m,none⟩ = some (bv x0):=⟨hs[m]'(by omega),(hk.cell (1 + m)).trans (fcells_h _ _ _ _ m (by omega))⟩
  have fm:=hk.frozen (1 + m)
  have f5:=hk.frozen 5
  have HK:=Lib.hid hk
  have HF:=Lib.hid (fun W=>formOf_any a.toNat W (UInt8.toNat_lt a))
  unfold formV at HF
  have HH:=Lib.hid hh
  have H1:=Lib.hid h1
  have H2:=Lib.hid h2
  have hn4:=wd_le a.toNat
  have hmb:=mayB_ok a.toNat m c.toNat (by omega)
  have hff:=f256 a.toNat
  have htk:=tk_cons a l c
  rw [← hm,show l.length + 2 = m + 1 by omega] at htk
  have HMY:=Lib.hid (fun n W=>may_any n (flo a.toNat) (fhi a.toNat) m c.toNat W hff.1 hff.2 (UInt8.toNat_lt c) (by omega))
  have hm0:((m:Int) == 0) = false:=by simp;omega
  have hm4:(m:Int) < 4:=by omega
  have hmp:(0:Int) ≤ m:=by omega
  have HM:=Lib.hid hm
  have HML:=Lib.hid hml
  clear h1 h2 hk hh hff hm hml
  generalize wd a.toNat = n at *
  generalize flo a.toNat = lo0 at *
  generalize fhi a.toNat = hi0 at *
  by_cases hkb:okb a.toNat m c.toNat = true
  · rw [hkb] at hmb htk
    rw [if_pos rfl] at htk
    rw [hmb] at HMY
    have HT:=Lib.hid htk
    clear hkb hmb htk
    by_cases hend:m + 1 = n
    · have e1:((m:Int) + 1 == n) = true:=by simp;omega
      go_enter Tryz.func82,Tryz.ntmps82
      go_wp2_with (go_at_call 102;(with_reducible refine (HF.out _).mono ?_);rintro e w1 ⟨rfl,hb1⟩;have q1:=keepc hb1 hblt c1;have q5:=keepc hb1 hblt c2;have p5:=keepf hb1 hblt f5;have hblt1:=keepz hb1 hblt)
      go_region_held3 (fun w'=>w'.cell? ⟨w1.heap.size,0,none⟩ = some (.int .i64 n) ∧ w'.cell? ⟨w1.heap.size,1,none⟩ = some (.int .u8 lo0) ∧ w'.cell? ⟨w1.heap.size,2,none⟩ = some (.int .u8 hi0) ∧ w'.cell? ⟨b,5,none⟩ = some (.int .i64 m))
        (first | (go_keep;done) | exact ⟨keepc hb2 (by simp) (by go_keep),keepc hb2 (by simp) (by go_keep),keepc hb2 (by simp) (by go_keep),keepc hb2 (by simp;omega) (by go_keep)⟩)
        (first
          | (go_at_call 103;refine (HMY.out _ _).mono ?_;rintro e w2 ⟨rfl,hb2⟩))
      have hbel:Below w.heap.size w w2:=keepb ((hb1.alloc hb1.size _).drew) hb2
      have HBE:=Lib.hid hbel
      have HB2:=Lib.hid hb2
      have r0:w2.cell? ⟨w1.heap.size,0,none⟩ = some (.int .i64 n):=keepc hb2 (by simp) (by go_keep)
      have r5:=keepc hbel hblt c2
      have rm:=keepc hbel hblt cm
      have s5:=keepf hbel hblt f5
      have sm:=keepf hbel hblt fm
      have hlt2:=keepz hbel hblt
      have hne:b ≠ w1.heap.size:=by omega
      have hne':w1.heap.size ≠ b:=by omega
      have n3:¬ m = 4:=by omega
      clear c1 c2 cm f5 fm hb1 hb2 hbel q1 q5 p5
      go_wp2
      go_region
      go_wp2
      go_region
      go_wp2
      go_ret
      refine ⟨fun h he=>?_,(fun he=>by rw [HH.out,HT.out,if_pos hend] at he;cases he),?_⟩
      · rw [HH.out,HT.out,if_pos hend] at he
        injection he with he
        subst he
        refine ⟨rfl,hs.set m c,by rw [List.length_set];exact H1.out,rfl,(show (0:Nat) < 4 by decide),?_⟩
        have h5:=(((HK.out.below HBE.out hblt).set1 (1 + m) (bv c)).set1 5 (.int .i64 ((m + 1:Nat):Int))).set1 5 (.int .i64 ((0:Nat):Int))
        rw [fcells_seth _ _ _ _ m (by rw [H1.out];exact h3),fcells_setm _ _ _ _ _ (by rw [List.length_set];exact H1.out),fcells_setm _ _ _ _ _ (by rw [List.length_set];exact H1.out)] at h5
        exact h5
      · exact ((((But.of_below HBE.out).setCell (p:=⟨b,1 + m,none⟩) (.inl rfl) _).setCell (p:=⟨b,5,none⟩) (.inl rfl) _).setCell (p:=⟨b,5,none⟩) (.inl rfl) _).drew.drew
    · have e1:((m:Int) + 1 == n) = false:=by simp;omega
      go_enter Tryz.func82,Tryz.ntmps82
      go_wp2_with (go_at_call 102;(with_reducible refine (HF.out _).mono ?_);rintro e w1 ⟨rfl,hb1⟩;have q1:=keepc hb1 hblt c1;have q5:=keepc hb1 hblt c2;have p5:=keepf hb1 hblt f5;have hblt1:=keepz hb1 hblt)
      go_region_held3 (fun w'=>w'.cell? ⟨w1.heap.size,0,none⟩ = some (.int .i64 n) ∧ w'.cell? ⟨w1.heap.size,1,none⟩ = some (.int .u8 lo0) ∧ w'.cell? ⟨w1.heap.size,2,none⟩ = some (.int .u8 hi0) ∧ w'.cell? ⟨b,5,none⟩ = some (.int .i64 m))
        (first | (go_keep;done) | exact ⟨keepc hb2 (by simp) (by go_keep),keepc hb2 (by simp) (by go_keep),keepc hb2 (by simp) (by go_keep),keepc hb2 (by simp;omega) (by go_keep)⟩)
        (first
          | (go_at_call 103;refine (HMY.out _ _).mono ?_;rintro e w2 ⟨rfl,hb2⟩))
      have hbel:Below w.heap.size w w2:=keepb ((hb1.alloc hb1.size _).drew) hb2
      have HBE:=Lib.hid hbel
      have HB2:=Lib.hid hb2
      have r0:w2.cell? ⟨w1.heap.size,0,none⟩ = some (.int .i64 n):=keepc hb2 (by simp) (by go_keep)
      have r5:=keepc hbel hblt c2
      have rm:=keepc hbel hblt cm
      have s5:=keepf hbel hblt f5
      have sm:=keepf hbel hblt fm
      have hlt2:=keepz hbel hblt
      have hne:b ≠ w1.heap.size:=by omega
      have hne':w1.heap.size ≠ b:=by omega
      have n3:¬ m = 4:=by omega
      clear c1 c2 cm f5 fm hb1 hb2 hbel q1 q5 p5
      go_wp2
      go_region
      go_wp2
      go_region
      go_wp2
      go_ret
      refine ⟨fun h he=>?_,(fun he=>by rw [HH.out,HT.out,if_neg hend] at he;cases he),?_⟩
      · rw [HH.out,HT.out,if_neg hend] at he
        injection he with he
        subst he
        have hml1:(a :: l ++ [c]).length = m + 1:=by rw [List.length_append,HML.out];rfl
        refine ⟨rfl,hs.set m c,by rw [List.length_set];exact H1.out,?_,?_,?_⟩
        · show (hs.set m c).take (a :: l ++ [c]).length = a :: l ++ [c]
          rw [hml1,List.take_succ_eq_append_getElem (by rw [List.length_set,H1.out];exact h3),List.take_set_of_le (Nat.le_refl _),H2.out]
          simp
        · show (a :: l ++ [c]).length < 4
          rw [hml1];omega
        · show Blk _ _ _ (fcells f.place (hs.set m c) (a :: l ++ [c]).length f.bad)
          rw [hml1]
          have h5:=((HK.out.below HBE.out hblt).set1 (1 + m) (bv c)).set1 5 (.int .i64 ((m + 1:Nat):Int))
          rw [fcells_seth _ _ _ _ m (by rw [H1.out];exact h3),fcells_setm _ _ _ _ _ (by rw [List.length_set];exact H1.out)] at h5
          exact h5
      · exact (((But.of_below HBE.out).setCell (p:=⟨b,1 + m,none⟩) (.inl rfl) _).setCell (p:=⟨b,5,none⟩) (.inl rfl) _).drew.drew
  · have hkb':okb a.toNat m c.toNat = false:=by simpa using hkb
    rw [hkb'] at hmb htk
    rw [if_neg (by decide)] at htk
    rw [hmb] at HMY
    have HT:=Lib.hid htk
    clear hkb hkb' hmb htk
    go_enter Tryz.func82,Tryz.ntmps82
    go_wp2_with (go_at_call 102;(with_reducible refine (HF.out _).mono ?_);rintro e w1 ⟨rfl,hb1⟩;have q1:=keepc hb1 hblt c1;have q5:=keepc hb1 hblt c2;have p5:=keepf hb1 hblt f5;have hblt1:=keepz hb1 hblt)
    go_region_held3 (fun w'=>w'.cell? ⟨w1.heap.size,0,none⟩ = some (.int .i64 n) ∧ w'.cell? ⟨w1.heap.size,1,none⟩ = some (.int .u8 lo0) ∧ w'.cell? ⟨w1.heap.size,2,none⟩ = some (.int .u8 hi0) ∧ w'.cell? ⟨b,5,none⟩ = some (.int .i64 m))
      (first | (go_keep;done) | exact ⟨keepc hb2 (by simp) (by go_keep),keepc hb2 (by simp) (by go_keep),keepc hb2 (by simp) (by go_keep),keepc hb2 (by simp;omega) (by go_keep)⟩)
      (first
        | (go_at_call 103;refine (HMY.out _ _).mono ?_;rintro e w2 ⟨rfl,hb2⟩))
    go_wp2
    go_ret
    have hbel:Below w.heap.size w w2:=keepb ((hb1.alloc hb1.size _).drew) hb2
    refine ⟨fun h he=>?_,fun _=>⟨rfl,⟨hs,H1.out,?_,?_,?_⟩⟩,But.of_below hbel⟩
    · rw [HH.out,HT.out] at he;cases he
    · rw [HH.out,HML.out];exact H2.out
    · rw [HH.out,HML.out];exact h3
    · rw [HH.out,HML.out];exact HK.out.below hbel hblt
theorem take_any (b:Nat) (f:Fd) (c:UInt8) (w:World) (hf:FB w b f) (hok:Fok f) :
    Calls Tryz.prog 82 #[.pointer (some ⟨b,0,none⟩),bv c] w (TakePost b f c w):=by
  cases hh:f.held with
  | nil=>exact take_nil b f c w hf hh
  | cons a l =>
    refine take_cons b f a l c w hf hh ?_
    unfold Fok at hok
    rw [hh] at hok
    exact hok
end Go.Proofs.YtgmholdkdppbmaaGreatDoor

namespace Go.Proofs.YtgmholdkdppbmaaGreatDoor
open Go.RowKit
def faultV (f:Fd):Value:=if f.bad = true then spotE 30 f.place else .nilIface
def endV (f:Fd):Value:=if f.held = [] then faultV f else spotE 31 f.place
theorem fault_any (b:Nat) (f:Fd) (w:World) (hf:FB w b f) :
    Calls Tryz.prog 83 #[.pointer (some ⟨b,0,none⟩)] w fun e w'=>e = .returned (faultV f) ∧ w = w':=by
  obtain ⟨hs,h1,h2,h3,hk⟩:=hf
  have c0:=hk.cell 0
  rw [fcells_0] at c0
  have c6:=hk.cell 6
  rw [(fcells_m _ _ _ _ h1).2] at c6
  clear h1 h2 h3 hk
  by_cases hb:f.bad = true
  · have hv:faultV f = spotE 30 f.place:=by unfold faultV;rw [if_pos hb]
    rw [hv]
    rw [hb] at c6
    clear hb hv
    generalize f.place = p at *
    go_enter Tryz.func83,Tryz.ntmps83
    go_wp2
    go_ret
    exact ⟨rfl,rfl⟩
  · have hb:f.bad = false:=by simpa using hb
    have hv:faultV f = .nilIface:=by unfold faultV;rw [if_neg (by rw [hb];decide)]
    rw [hv]
    rw [hb] at c6
    clear hb hv
    go_enter Tryz.func83,Tryz.ntmps83
    go_wp2
    go_ret
    exact ⟨rfl,rfl⟩
theorem held_of (b:Nat) (f:Fd) (w:World) (hf:FB w b f) :
    Calls Tryz.prog 62 #[.pointer (some ⟨b,0,none⟩)] w fun e w'=>e = .returned (.int .i64 f.held.length) ∧ w = w':=by
  obtain ⟨hs,h1,h2,h3,hk⟩:=hf
  have c5:=hk.cell 5
  rw [(fcells_m _ _ _ _ h1).1] at c5
  clear h1 h2 h3 hk
  go_enter Tryz.func62,Tryz.ntmps62
  go_wp2
  go_ret
  exact ⟨rfl,rfl⟩
theorem new_any (w:World):Calls Tryz.prog 50 #[] w fun e w'=>e = .returned (.pointer (some ⟨w.heap.size,0,none⟩)) ∧ FB w' w.heap.size fini ∧ Below w.heap.size w w':=by
  go_enter Tryz.func50,Tryz.ntmps50
  go_wp2
  go_ret
  exact ⟨rfl,⟨[0,0,0,0],rfl,rfl,(show (0:Nat) < 4 by decide),Blk.new w _ _⟩,by go_grown⟩
set_option maxRecDepth 100000 in
set_option maxHeartbeats 1000000 in
theorem feed_any (b:Nat) (f:Fd) (A:Option Addr) (n c B:Nat) (bs:List UInt8) (w:World) (hf:FB w b f) (hok:Fok f) (h:RB w B A n bs) (hne:∀ g o,A = some ⟨g,o,none⟩ → 0 < n → g ≠ b) (hB:B ≤ w.heap.size) (hn:n ≤ 1000000000000000) (hp:f.place ≤ 1000000000000000) :
    Calls Tryz.prog 64 #[.pointer (some ⟨b,0,none⟩),.slice A n c] w fun e w'=>e = .returned (faultV (frun f bs)) ∧ FB w' b (frun f bs) ∧ But w.heap.size b w w':=by
  have hl:=h.1
  subst hl
  have HR:=Lib.hid h
  have HNE:=Lib.hid hne
  have HOK:=Lib.hid hok
  have HF:=Lib.hid hf
  have hbl:=hf.lt
  clear h hne hok hf
  go_enter Tryz.func64,Tryz.ntmps64
  go_wp2
  go_loopw [5] (fun i wr=>∃ j:Nat,j ≤ bs.length ∧ i = .int .i64 j ∧ FB wr b (frun f (bs.take j)) ∧ But w.heap.size b w wr ∧ (frun f (bs.take j)).place ≤ f.place + j) (fun i _=>bs.length - (intOf i).toNat)
  case atStart=>exact ⟨0,by omega,rfl,HF.out,But.refl _ _ _,by simp [frun_nil]⟩
  case round =>
    obtain ⟨j,hj,rfl,hf,hbut,hpl⟩:=hrel
    have HFB:=Lib.hid hf
    have HBUT:=Lib.hid hbut
    have hsr:=hbut.size
    have hc6:wr.cell? ⟨b,6,none⟩ = some (.bool (frun f (bs.take j)).bad):=by
      obtain ⟨hs,h1,h2,h3,hk⟩:=hf
      rw [hk.cell 6,(fcells_m _ _ _ _ h1).2]
    clear hf hbut
    by_cases hbad:(frun f (bs.take j)).bad = true
    · have hend:frun f bs = frun f (bs.take j):=by
        conv=>lhs;rw [← List.take_append_drop j bs,frun_append]
        exact frun_bad hbad _
      rw [hbad] at hc6
      have HEND:=Lib.hid hend
      have HFT:=Lib.hid (fault_any b _ wr HFB.out)
      clear hbad hend
      generalize frun f (bs.take j) = g at *
      generalize hv:faultV g = v at *
      have HV:=Lib.hid hv
      clear hv
      by_cases hlt:j < bs.length
      · go_wp2_with (go_at_call 83;(with_reducible refine HFT.out.mono ?_);rintro e w1 ⟨rfl,rfl⟩)
        go_ret
        exact ⟨by rw [HEND.out,HV.out];rfl,by rw [HEND.out];exact HFB.out,HBUT.out⟩
      · go_wp2_with (go_at_call 83;(with_reducible refine HFT.out.mono ?_);rintro e w1 ⟨rfl,rfl⟩)
        go_ret
        exact ⟨by rw [HEND.out,HV.out];rfl,by rw [HEND.out];exact HFB.out,HBUT.out⟩
    · have hbad:(frun f (bs.take j)).bad = false:=by simpa using hbad
      rw [hbad] at hc6
      by_cases hlt:j < bs.length
      · obtain ⟨g,o,rfl,hg,hcc⟩:=HR.out.2 (by omega)
        have hgb:=HNE.out g o rfl (by omega)
        have hcell:wr.cell? ⟨g,o + j,none⟩ = some (bv bs[j]):=by
          rw [HBUT.out.cell (p:=⟨g,o + j,none⟩) (show g < w.heap.size by omega) hgb];exact hcc j hlt
        have htk:=List.take_succ_eq_append_getElem hlt
        have hsn:=frun_snoc f (bs.take j) bs[j]
        rw [← htk] at hsn
        have hokj:=frun_ok HOK.out (bs.take j)
        have HSN:=Lib.hid hsn
        have HTA:=Lib.hid (take_any b _ bs[j] wr HFB.out hokj)
        have HB:=Lib.hid hbad
        clear hcc htk hsn hokj hbad
        generalize bs[j] = x at *
        generalize frun f (bs.take j) = s at *
        go_wp2_with fail
        refine HTA.out.mono ?_
        rintro e w2 ⟨t1,t2,hb2⟩
        have HB2:=Lib.hid hb2
        have hs2:=hb2.size
        cases htk:tk s.held x with
        | none =>
          obtain ⟨rfl,hf2⟩:=t2 htk
          have hst:=fstep_fail HB.out htk
          have HST:=Lib.hid (HSN.out.trans hst)
          have hf2':=hf2
          obtain ⟨hs,h1,h2,h3,hk⟩:=hf2'
          have d5:=hk.cell 5
          rw [(fcells_m _ _ _ _ h1).1] at d5
          have d6:=hk.cell 6
          rw [(fcells_m _ _ _ _ h1).2,HB.out] at d6
          have e5:=hk.frozen 5
          have e6:=hk.frozen 6
          have HK:=Lib.hid hk
          have H1:=Lib.hid h1
          clear t1 t2 htk hst hf2 h1 h2 h3 hk hb2 hc6 hcell
          go_wp2
          go_roundw
          case rel =>
            have hk2:=(HK.out.set1 6 (.bool true)).set1 5 (.int .i64 ((0:Nat):Int))
            rw [fcells_setb _ _ _ _ _ H1.out,fcells_setm _ _ _ _ _ H1.out] at hk2
            refine ⟨j + 1,by omega,by go_num,?_,((HBUT.out.trans (HB2.out.mono hsr)).setCell (p:=⟨b,6,none⟩) (.inl rfl) _).setCell (p:=⟨b,5,none⟩) (.inl rfl) _,?_⟩
            · rw [HST.out];exact ⟨hs,H1.out,rfl,(show (0:Nat) < 4 by decide),hk2⟩
            · rw [HST.out];show s.place ≤ _;omega
          case measure=>simp [intOf];omega
        | some h' =>
          obtain ⟨rfl,hf2⟩:=t1 h' htk
          have hst:=fstep_good HB.out htk
          have HST:=Lib.hid (HSN.out.trans hst)
          have hf2':=hf2
          obtain ⟨hs,h1,h2,h3,hk⟩:=hf2'
          have d0:=hk.cell 0
          rw [fcells_0] at d0
          have e0:=hk.frozen 0
          have HK:=Lib.hid hk
          have H1:=Lib.hid h1
          have H2:=Lib.hid h2
          have HBAD:=HB
          have d0:w2.cell? ⟨b,0,none⟩ = some (.int .i64 s.place):=d0
          clear t1 t2 htk hst hf2 h1 h2 hk hb2 hc6 hcell
          go_wp2
          go_roundw
          case rel =>
            have hk2:=HK.out.set1 0 (.int .i64 ((s.place + 1:Nat):Int))
            rw [fcells_set0] at hk2
            refine ⟨j + 1,by omega,by go_num,?_,(HBUT.out.trans (HB2.out.mono hsr)).setCell (p:=⟨b,0,none⟩) (.inl rfl) _,?_⟩
            · rw [HST.out];exact ⟨hs,H1.out,H2.out,h3,by rw [HB.out] at hk2;exact hk2⟩
            · rw [HST.out];show s.place + 1 ≤ _;omega
          case measure=>simp [intOf];omega
      · obtain rfl:j = bs.length:=by omega
        have hend:frun f bs = frun f (bs.take bs.length):=by rw [List.take_length]
        have HEND:=Lib.hid hend
        have HFT:=Lib.hid (fault_any b _ wr HFB.out)
        clear hbad hlt hend
        generalize frun f (bs.take bs.length) = g at *
        generalize hv:faultV g = v at *
        have HV:=Lib.hid hv
        clear hv
        go_wp2_with (go_at_call 83;(with_reducible refine HFT.out.mono ?_);rintro e w1 ⟨rfl,rfl⟩)
        go_ret
        exact ⟨by rw [HEND.out,HV.out];rfl,by rw [HEND.out];exact HFB.out,HBUT.out⟩
end Go.Proofs.YtgmholdkdppbmaaGreatDoor

namespace Go.Proofs.YtgmholdkdppbmaaGreatDoor.Lx
open Go.RowKit
def DgOk (n code high:Nat):Prop :=
  (high = 0 ∨ (55296 ≤ high ∧ high ≤ 56319)) ∧
  ((n = 0 ∧ code = 0) ∨
   (n = 1 ∧ code < 16 ∧ (high ≠ 0 → code = 13)) ∨
   (n = 2 ∧ code < 256 ∧ (high = 0 → code < 220 ∨ 224 ≤ code) ∧ (high ≠ 0 → 220 ≤ code ∧ code ≤ 223)) ∨
   (n = 3 ∧ code < 4096 ∧ (high = 0 → code < 3520 ∨ 3584 ≤ code) ∧ (high ≠ 0 → 3520 ≤ code ∧ code ≤ 3583)))
def MdOk (Q:Nat):Md → Prop
  | .out=>True
  | .num fr st raw=>fr + raw.length = Q ∧ raw ≠ [] ∧ rnum 0 raw = (raw.length,st) ∧ st ≤ 8
  | .word fr raw=>fr + raw.length = Q ∧ raw ≠ [] ∧ ∃ rest,wordOf (raw.getD 0 0) = raw ++ rest ∧ rest ≠ []
  | .txt fr says held=>fr < Q ∧ says.length ≤ 4 * Q ∧ HOk held
  | .esc fr says=>fr < Q ∧ says.length ≤ 4 * Q
  | .dig fr says n code high=>fr < Q ∧ says.length ≤ 4 * Q ∧ DgOk n code high
  | .sla fr says high=>fr < Q ∧ says.length ≤ 4 * Q ∧ 55296 ≤ high ∧ high ≤ 56319
  | .leu fr says high=>fr < Q ∧ says.length ≤ 4 * Q ∧ 55296 ≤ high ∧ high ≤ 56319
theorem nxt_le {st st':Nat} {c:UInt8} (h:nxt st c = some st'):st' ≤ 8:=by
  unfold nxt at h
  (repeat' split at h) <;> first | (injection h with h;omega) | cases h
theorem hexv_lt {c:UInt8} {v:Nat} (h:hexv c = some v):v < 16:=by
  unfold hexv at h
  (repeat' split at h) <;> first | (injection h with h;omega) | cases h
theorem wholeS_ok {fr:Nat} {says:List UInt8} {code high v Q:Nat} (hf:fr < Q) (hs:says.length ≤ 4 * (Q - 1)) (hd:DgOk 3 code high) (hv:v < 16):MdOk Q (wholeS fr says (16 * code + v) high):=by
  obtain ⟨h1,h2⟩:=hd
  have h3:code < 4096:=by omega
  unfold wholeS
  split
  · rename_i hh
    have hl:=enc_length (65536 + (high - 55296) * 1024 + (16 * code + v - 56320))
    refine ⟨hf,?_,trivial⟩
    rw [List.length_append]
    have:(enc (65536 + (high - 55296) * 1024 + (16 * code + v - 56320))).length ≤ 4:=by rw [hl];(repeat' split) <;> omega
    omega
  split
  · rename_i hh hr
    exact ⟨hf,by omega,hr⟩
  · have hl:=enc_length (16 * code + v)
    refine ⟨hf,?_,trivial⟩
    rw [List.length_append]
    have:(enc (16 * code + v)).length ≤ 4:=by rw [hl];(repeat' split) <;> omega
    omega
theorem whole_scal {code high v:Nat} (hd:DgOk 3 code high) (hv:v < 16) :
    (high ≠ 0 → 56320 ≤ 16 * code + v ∧ 16 * code + v ≤ 57343 ∧ Scal (65536 + (high - 55296) * 1024 + (16 * code + v - 56320))) ∧
    (high = 0 → ¬ (55296 ≤ 16 * code + v ∧ 16 * code + v ≤ 56319) → Scal (16 * code + v)):=by
  obtain ⟨h1,h2⟩:=hd
  refine ⟨fun h=>?_,fun h hr=>?_⟩
  · have h3:3520 ≤ code ∧ code ≤ 3583:=by omega
    refine ⟨by omega,by omega,?_⟩
    unfold Scal
    omega
  · have h3:code < 4096 ∧ (code < 3520 ∨ 3584 ≤ code):=by omega
    unfold Scal
    omega
theorem outS_ok {P:Nat} {c:UInt8} {m':Md} {t:List Tok} (h:outS P c = .go m' t):MdOk (P + 1) m' ∧ t.length ≤ 1:=by
  unfold outS at h
  split at h
  · injection h with h1 h2;subst h1 h2;exact ⟨trivial,by decide⟩
  split at h
  · injection h with h1 h2;subst h1 h2;exact ⟨trivial,by simp⟩
  split at h
  · injection h with h1 h2;subst h1 h2;exact ⟨⟨by omega,by simp,trivial⟩,by decide⟩
  split at h
  · rename_i hc
    injection h with h1 h2
    subst h1 h2
    refine ⟨⟨rfl,by simp,?_,?_⟩,by decide⟩
    · cases hn:nxt 0 c with
      | some s=>rw [rnum_on [] hn];rfl
      | none =>
        exfalso
        rcases hc with rfl | hd
        · revert hn;decide
        · by_cases h48:c = 48
          · subst h48;revert hn;decide
          · have h45:¬ c = 45:=by rintro rfl;revert hd;decide
            simp [nxt,h48,hd,h45] at hn
    · cases hn:nxt 0 c with
      | some s=>exact nxt_le hn
      | none=>exact Nat.zero_le _
  split at h
  · rename_i hw
    injection h with h1 h2
    subst h1 h2
    obtain ⟨_,_,_,_,_,W,hW,hW0⟩:=word_not hw
    exact ⟨⟨rfl,by simp,W,by rw [show [c].getD 0 0 = c from rfl,hW];rfl,hW0⟩,by decide⟩
  · cases h
theorem step_ok {fl:List UInt8 → Option Nat} {P:Nat} {m m':Md} {c:UInt8} {t:List Tok} (hm:MdOk P m) (h:step fl P m c = .go m' t):MdOk (P + 1) m' ∧ t.length ≤ 2:=by
  cases m with
  | out=>have:=outS_ok (h:outS P c = .go m' t);exact ⟨this.1,by omega⟩
  | num fr st raw =>
    obtain ⟨h1,h2,h3,h4⟩:=hm
    simp only [step] at h
    split at h
    · rename_i st' hn
      injection h with e1 e2
      subst e1 e2
      exact ⟨⟨by simp;omega,by simp,by rw [rnum_snoc raw 0 st h3 hn];simp,nxt_le hn⟩,by decide⟩
    · split at h
      · split at h
        · rename_i b hf
          cases ho:outS P c with
          | go m2 t2 =>
            rw [ho] at h
            injection h with e1 e2
            subst e1 e2
            obtain ⟨g1,g2⟩:=outS_ok ho
            exact ⟨g1,by simp;omega⟩
          | bad no q t2=>rw [ho] at h;cases h
        · cases h
      · cases h
  | word fr raw =>
    obtain ⟨h1,h2,rest,h3,h4⟩:=hm
    simp only [step] at h
    split at h
    · rename_i hg
      split at h
      · injection h with e1 e2;subst e1 e2;exact ⟨trivial,by simp⟩
      · rename_i hlen
        injection h with e1 e2
        subst e1 e2
        rw [h3] at hg hlen
        cases rest with
        | nil=>exact absurd rfl h4
        | cons d rest =>
          have hd:d = c:=by simpa using hg
          subst hd
          refine ⟨⟨by simp;omega,by simp,rest,?_,?_⟩,by decide⟩
          · have:(raw ++ [d]).getD 0 0 = raw.getD 0 0:=by
              cases raw with
              | nil=>exact absurd rfl h2
              | cons a l=>rfl
            rw [this,h3];simp
          · rintro rfl;simp at hlen
    · cases h
  | txt fr says held =>
    obtain ⟨h1,h2,h3⟩:=hm
    simp only [step] at h
    split at h
    · injection h with e1 e2;subst e1 e2;exact ⟨trivial,by simp⟩
    split at h
    · injection h with e1 e2;subst e1 e2;exact ⟨⟨by omega,by omega⟩,by decide⟩
    split at h
    · cases h
    split at h
    · rename_i hh ht
      injection h with e1 e2
      subst e1 e2
      exact ⟨⟨by omega,by simp;omega,tk_ok h3 ht⟩,by decide⟩
    · cases h
  | esc fr says =>
    obtain ⟨h1,h2⟩:=hm
    simp only [step] at h
    split at h
    · injection h with e1 e2;subst e1 e2;exact ⟨⟨by omega,by omega,.inl rfl,.inl ⟨rfl,rfl⟩⟩,by decide⟩
    split at h
    · injection h with e1 e2;subst e1 e2;exact ⟨⟨by omega,by simp;omega,trivial⟩,by decide⟩
    · cases h
  | dig fr says n code high =>
    obtain ⟨h1,h2,h3⟩:=hm
    simp only [step] at h
    split at h
    · split at h <;> cases h
    · rename_i v hv
      have hv16:=hexv_lt hv
      split at h
      · cases h
      · rename_i hl
        split at h
        · rename_i hn
          subst hn
          injection h with e1 e2
          subst e1 e2
          exact ⟨wholeS_ok (by omega) (by omega) h3 hv16,by decide⟩
        · rename_i hn
          injection h with e1 e2
          subst e1 e2
          refine ⟨⟨by omega,by omega,h3.1,?_⟩,by decide⟩
          have hl':¬ loneB (high != 0) n code v = true:=hl
          obtain ⟨g0,g⟩:=h3
          unfold loneB at hl'
          by_cases hz:high = 0
          · subst hz
            simp at hl'
            omega
          · have:(high != 0) = true:=by rw [bne_iff_ne];exact hz
            rw [this] at hl'
            simp at hl'
            rcases g with ⟨rfl,rfl⟩ | ⟨rfl,a1,a2⟩ | ⟨rfl,a1,a2,a3⟩ | ⟨rfl,_⟩
            · have:=hl'.1 rfl
              refine .inr (.inl ⟨rfl,by omega,fun _=>by omega⟩)
            · have:=hl'.2 rfl
              have:=a2 hz
              refine .inr (.inr (.inl ⟨rfl,by omega,fun h=>absurd h hz,fun _=>by omega⟩))
            · have:=a3 hz
              refine .inr (.inr (.inr ⟨rfl,by omega,fun h=>absurd h hz,fun _=>by omega⟩))
            · exact absurd rfl hn
  | sla fr says high =>
    obtain ⟨h1,h2,h3⟩:=hm
    simp only [step] at h
    split at h
    · injection h with e1 e2;subst e1 e2;exact ⟨⟨by omega,by omega,h3⟩,by decide⟩
    · cases h
  | leu fr says high =>
    obtain ⟨h1,h2,h3⟩:=hm
    simp only [step] at h
    split at h
    · injection h with e1 e2;subst e1 e2;exact ⟨⟨by omega,by omega,.inr h3,.inl ⟨rfl,rfl⟩⟩,by decide⟩
    · cases h
end Go.Proofs.YtgmholdkdppbmaaGreatDoor.Lx

namespace Go.Proofs.YtgmholdkdppbmaaGreatDoor.Lx
open Go.RowKit
theorem Row.mono {O O':Nat → Prop} {w:World} {v:Value} {l:List UInt8} (h:Row O w v l) (hO:∀ k,O k → O' k):Row O' w v l:=⟨h.1,fun k hk=>hO k (h.2 k hk)⟩
theorem TRow.mono {O O':Nat → Prop} {w:World} {v:Value} {l:List Value} (h:TRow O w v l) (hO:∀ k,O k → O' k):TRow O' w v l:=⟨h.1,fun k hk=>hO k (h.2 k hk)⟩
theorem Row.keep {O:Nat → Prop} {w w':World} {v:Value} {l:List UInt8} (h:Row O w v l) (hk:∀ k,v.ownBlock = some k → w'.heap[k]? = w.heap[k]?):Row O w' v l:=⟨own_keep h.1 hk,h.2⟩
theorem TRow.keep {O:Nat → Prop} {w w':World} {v:Value} {l:List Value} (h:TRow O w v l) (hk:∀ k,v.ownBlock = some k → w'.heap[k]? = w.heap[k]?):TRow O w' v l:=⟨own_keep h.1 hk,h.2⟩
theorem Row.nil (O:Nat → Prop) (w:World):Row O w (.slice none 0 0) []:=⟨World.ownsRow_nil w 0 5 1,fun k hk=>by simp [Value.ownBlock] at hk⟩
theorem TRow.nil (O:Nat → Prop) (w:World):TRow O w (.slice none 0 0) []:=⟨World.ownsRow_nil w 0 35 1,fun k hk=>by simp [Value.ownBlock] at hk⟩
theorem own_lt {w:World} {base:Nat} {e:TypeId} {size n:Nat} {v:Value} {xs:List Value} (h:w.ownsRow base e size v n xs):∀ k,v.ownBlock = some k → k < w.heap.size:=by
  intro k hk
  rcases h.2 with ⟨rfl,_⟩ | ⟨g,cap,cur,rfl,hg,hh,r⟩
  · simp [Value.ownBlock] at hk
  · have:g = k:=by simpa [Value.ownBlock] using hk
    subst this
    rcases Nat.lt_or_ge g w.heap.size with hlt | hge
    · exact hlt
    · rw [Array.getElem?_eq_none hge] at hh;cases hh
def Fdr (O:Nat → Prop) (w:World) (Q:Nat) (ch:Value) (held:List UInt8):Prop:=∃ g f,ch = .pointer (some ⟨g,0,none⟩) ∧ FB w g f ∧ f.held = held ∧ f.bad = false ∧ f.place ≤ Q ∧ Fok f ∧ O g
theorem Fdr.mono {O O':Nat → Prop} {w:World} {Q Q':Nat} {ch:Value} {held:List UInt8} (h:Fdr O w Q ch held) (hO:∀ k,O k → O' k) (hQ:Q ≤ Q'):Fdr O' w Q' ch held:=by
  obtain ⟨g,f,h1,h2,h3,h4,h5,h6,h7⟩:=h
  exact ⟨g,f,h1,h2,h3,h4,by omega,h6,hO g h7⟩
theorem FB.keep {w w':World} {b:Nat} {f:Fd} (h:FB w b f) (hk:w'.heap[b]? = w.heap[b]?):FB w' b f:=by
  obtain ⟨hs,h1,h2,h3,h4⟩:=h
  exact ⟨hs,h1,h2,h3,hk.trans h4⟩
def MdM (O:Nat → Prop) (w:World) (Q:Nat):Md → Value → Value → Value → Value → Value → Value → Value → Value → Value → Value → Prop
  | .out,st,inn,fr,raw,nm,ch,sy,dg,cd,hg=>st = fOut ∧ inn = .bool false
  | .num f s r,st,inn,fr,raw,nm,ch,sy,dg,cd,hg=>st = fNum ∧ inn = .bool true ∧ fr = .int .i64 (f:Nat) ∧ nm = .int .i64 (s:Nat) ∧ Row O w raw r
  | .word f r,st,inn,fr,raw,nm,ch,sy,dg,cd,hg=>st = fLet ∧ inn = .bool true ∧ fr = .int .i64 (f:Nat) ∧ nm = .int .i64 0 ∧ Row O w raw r
  | .txt f s h,st,inn,fr,raw,nm,ch,sy,dg,cd,hg=>st = fWit ∧ inn = .bool true ∧ fr = .int .i64 (f:Nat) ∧ nm = .int .i64 0 ∧ Row O w sy s ∧ Fdr O w Q ch h ∧ hg = .int .i32 0
  | .esc f s,st,inn,fr,raw,nm,ch,sy,dg,cd,hg=>st = fEsc ∧ inn = .bool true ∧ fr = .int .i64 (f:Nat) ∧ nm = .int .i64 0 ∧ Row O w sy s ∧ Fdr O w Q ch [] ∧ hg = .int .i32 0
  | .dig f s n c h,st,inn,fr,raw,nm,ch,sy,dg,cd,hg=>st = fDig ∧ inn = .bool true ∧ fr = .int .i64 (f:Nat) ∧ nm = .int .i64 0 ∧ Row O w sy s ∧ Fdr O w Q ch [] ∧ hg = .int .i32 (h:Nat) ∧ dg = .int .i64 (n:Nat) ∧ cd = .int .i32 (c:Nat)
  | .sla f s h,st,inn,fr,raw,nm,ch,sy,dg,cd,hg=>st = fSla ∧ inn = .bool true ∧ fr = .int .i64 (f:Nat) ∧ nm = .int .i64 0 ∧ Row O w sy s ∧ Fdr O w Q ch [] ∧ hg = .int .i32 (h:Nat)
  | .leu f s h,st,inn,fr,raw,nm,ch,sy,dg,cd,hg=>st = fLeu ∧ inn = .bool true ∧ fr = .int .i64 (f:Nat) ∧ nm = .int .i64 0 ∧ Row O w sy s ∧ Fdr O w Q ch [] ∧ hg = .int .i32 (h:Nat)
def tn:Md → Nat
  | .num _ _ _=>1
  | _=>0
section
variable {f n c h s:Nat} {r r2:List UInt8}
@[simp] theorem tn_out:tn .out = 0:=rfl
@[simp] theorem tn_num:tn (.num f s r) = 1:=rfl
@[simp] theorem tn_word:tn (.word f r) = 0:=rfl
@[simp] theorem tn_txt:tn (.txt f r r2) = 0:=rfl
@[simp] theorem tn_esc:tn (.esc f r) = 0:=rfl
@[simp] theorem tn_dig:tn (.dig f r n c h) = 0:=rfl
@[simp] theorem tn_sla:tn (.sla f r h) = 0:=rfl
@[simp] theorem tn_leu:tn (.leu f r h) = 0:=rfl
end
def LxM (O:Nat → Prop) (w:World) (b P Q:Nat) (er dn:Value) (m:Md) (ts:List Tok):Prop :=
  O b ∧ Q ≤ 16777217 ∧ ts.length + tn m ≤ 2 * Q ∧ MdOk Q m ∧ ∃ st inn fr raw nm ch sy dg cd hg tk,
    Blk w b 80 #[.int .i64 (P:Nat),er,dn,st,inn,fr,raw,nm,ch,sy,dg,cd,hg,tk] ∧ MdM O w Q m st inn fr raw nm ch sy dg cd hg ∧ TRow O w tk (ts.map tokV)
def LxX (O:Nat → Prop) (w:World) (b P:Nat) (er dn:Value) (no q:Nat) (ts:List Tok):Prop :=
  O b ∧ P ≤ 16777216 ∧ ts.length ≤ 2 * (P + 1) ∧ (no = 41 ∨ q = P) ∧ ∃ st inn fr raw nm ch sy dg cd hg tk,
    Blk w b 80 #[.int .i64 (P:Nat),er,dn,st,inn,fr,raw,nm,ch,sy,dg,cd,hg,tk] ∧ (no = 41 → fr = .int .i64 (q:Nat)) ∧ TRow O w tk (ts.map tokV)
def StP (O:Nat → Prop) (w:World) (b P:Nat) (er dn:Value) (ts:List Tok) (r:Rs) (e:Ending) (w':World):Prop:=match r with
  | .go m' t=>e = .returned (.int .i64 0) ∧ LxM (up O w) w' b P (P + 1) er dn m' (ts ++ t) ∧ Fr O w w'
  | .bad no q t=>e = .returned (.int .i64 (no:Nat)) ∧ no ≠ 0 ∧ no < 100 ∧ LxX (up O w) w' b P er dn no q (ts ++ t) ∧ Fr O w w'
theorem MdOk.out (Q:Nat):MdOk Q .out:=trivial
theorem MdM.mono {O O':Nat → Prop} {w:World} {Q Q':Nat} {m:Md} {st inn fr raw nm ch sy dg cd hg:Value} (h:MdM O w Q m st inn fr raw nm ch sy dg cd hg) (hO:∀ k,O k → O' k) (hQ:Q ≤ Q'):MdM O' w Q' m st inn fr raw nm ch sy dg cd hg:=by
  cases m with
  | out=>exact h
  | num f s r=>obtain ⟨h1,h2,h3,h4,h5⟩:=h;exact ⟨h1,h2,h3,h4,h5.mono hO⟩
  | word f r=>obtain ⟨h1,h2,h3,h4,h5⟩:=h;exact ⟨h1,h2,h3,h4,h5.mono hO⟩
  | txt f s hh=>obtain ⟨h1,h2,h3,h4,h5,h6,h7⟩:=h;exact ⟨h1,h2,h3,h4,h5.mono hO,h6.mono hO hQ,h7⟩
  | esc f s=>obtain ⟨h1,h2,h3,h4,h5,h6,h7⟩:=h;exact ⟨h1,h2,h3,h4,h5.mono hO,h6.mono hO hQ,h7⟩
  | dig f s n c hh=>obtain ⟨h1,h2,h3,h4,h5,h6,h7⟩:=h;exact ⟨h1,h2,h3,h4,h5.mono hO,h6.mono hO hQ,h7⟩
  | sla f s hh=>obtain ⟨h1,h2,h3,h4,h5,h6,h7⟩:=h;exact ⟨h1,h2,h3,h4,h5.mono hO,h6.mono hO hQ,h7⟩
  | leu f s hh=>obtain ⟨h1,h2,h3,h4,h5,h6,h7⟩:=h;exact ⟨h1,h2,h3,h4,h5.mono hO,h6.mono hO hQ,h7⟩
theorem MdM.keep {O:Nat → Prop} {w w':World} {Q:Nat} {m:Md} {st inn fr raw nm ch sy dg cd hg:Value} (h:MdM O w Q m st inn fr raw nm ch sy dg cd hg)
    (hk:∀ k (t:TypeId) cs s,w.heap[k]? = some (.cells cs t s) → t = 5 ∨ t = 140 → O k → w'.heap[k]? = w.heap[k]?):MdM O w' Q m st inn fr raw nm ch sy dg cd hg:=by
  have hr:∀ v l,Row O w v l → Row O w' v l:=fun v l hv=>hv.keep (fun k hkk=>by
    obtain ⟨ho,hO⟩:=hv
    rcases ho.2 with ⟨rfl,_⟩ | ⟨g,cap,cur,rfl,hg',hh,r⟩
    · simp [Value.ownBlock] at hkk
    · have:g = k:=by simpa [Value.ownBlock] using hkk
      subst this
      exact hk g _ _ _ hh (.inl rfl) (hO g rfl))
  have hf:∀ l,Fdr O w Q ch l → Fdr O w' Q ch l:=fun l hl=>by
    obtain ⟨g,f,h1,h2,h3,h4,h5,h6,h7⟩:=hl
    obtain ⟨hs,a1,a2,a3,a4⟩:=h2
    exact ⟨g,f,h1,⟨hs,a1,a2,a3,(hk g _ _ _ a4 (.inr rfl) h7).trans a4⟩,h3,h4,h5,h6,h7⟩
  cases m with
  | out=>exact h
  | num f s r=>obtain ⟨h1,h2,h3,h4,h5⟩:=h;exact ⟨h1,h2,h3,h4,hr _ _ h5⟩
  | word f r=>obtain ⟨h1,h2,h3,h4,h5⟩:=h;exact ⟨h1,h2,h3,h4,hr _ _ h5⟩
  | txt f s hh=>obtain ⟨h1,h2,h3,h4,h5,h6,h7⟩:=h;exact ⟨h1,h2,h3,h4,hr _ _ h5,hf _ h6,h7⟩
  | esc f s=>obtain ⟨h1,h2,h3,h4,h5,h6,h7⟩:=h;exact ⟨h1,h2,h3,h4,hr _ _ h5,hf _ h6,h7⟩
  | dig f s n c hh=>obtain ⟨h1,h2,h3,h4,h5,h6,h7⟩:=h;exact ⟨h1,h2,h3,h4,hr _ _ h5,hf _ h6,h7⟩
  | sla f s hh=>obtain ⟨h1,h2,h3,h4,h5,h6,h7⟩:=h;exact ⟨h1,h2,h3,h4,hr _ _ h5,hf _ h6,h7⟩
  | leu f s hh=>obtain ⟨h1,h2,h3,h4,h5,h6,h7⟩:=h;exact ⟨h1,h2,h3,h4,hr _ _ h5,hf _ h6,h7⟩
theorem LxM.below {O:Nat → Prop} {w w':World} {b P Q:Nat} {er dn:Value} {m:Md} {ts:List Tok} (h:LxM O w b P Q er dn m ts) (hb:Below w.heap.size w w'):LxM O w' b P Q er dn m ts:=by
  obtain ⟨h1,h2,h3,h4,st,inn,fr,raw,nm,ch,sy,dg,cd,hg,tk,h5,h6,h7⟩:=h
  exact ⟨h1,h2,h3,h4,st,inn,fr,raw,nm,ch,sy,dg,cd,hg,tk,h5.below hb h5.lt,h6.keep (fun k t cs s hk _ _=>hb.block k (Array.getElem?_eq_some_iff.1 hk).1),h7.keep (fun k hk=>hb.block k (own_lt h7.1 k hk))⟩
theorem LxM.apart {O O2:Nat → Prop} {w w':World} {b P Q:Nat} {er dn:Value} {m:Md} {ts:List Tok} (h:LxM O w b P Q er dn m ts) (hf:Fr O2 w w') (hO:∀ k,k < w.heap.size → O k → ¬ O2 k):LxM O w' b P Q er dn m ts:=by
  obtain ⟨h1,h2,h3,h4,st,inn,fr,raw,nm,ch,sy,dg,cd,hg,tk,h5,h6,h7⟩:=h
  refine ⟨h1,h2,h3,h4,st,inn,fr,raw,nm,ch,sy,dg,cd,hg,tk,(hf.block b h5.lt (hO b h5.lt h1)).trans h5,h6.keep (fun k t cs s hk _ hOk=>?_),h7.keep (fun k hk=>?_)⟩
  · have hlt:=(Array.getElem?_eq_some_iff.1 hk).1
    exact hf.block k hlt (hO k hlt hOk)
  · have hlt:=own_lt h7.1 k hk
    exact hf.block k hlt (hO k hlt (h7.2 k hk))
theorem LxM.mono {O O':Nat → Prop} {w:World} {b P Q:Nat} {er dn:Value} {m:Md} {ts:List Tok} (h:LxM O w b P Q er dn m ts) (hO:∀ k,O k → O' k):LxM O' w b P Q er dn m ts:=by
  obtain ⟨h1,h2,h3,h4,st,inn,fr,raw,nm,ch,sy,dg,cd,hg,tk,h5,h6,h7⟩:=h
  exact ⟨hO b h1,h2,h3,h4,st,inn,fr,raw,nm,ch,sy,dg,cd,hg,tk,h5,h6.mono hO (Nat.le_refl _),h7.mono hO⟩
theorem LxX.mono {O O':Nat → Prop} {w:World} {b P:Nat} {er dn:Value} {no q:Nat} {ts:List Tok} (h:LxX O w b P er dn no q ts) (hO:∀ k,O k → O' k):LxX O' w b P er dn no q ts:=by
  obtain ⟨h1,h2,h3,h4,st,inn,fr,raw,nm,ch,sy,dg,cd,hg,tk,h5,h6,h7⟩:=h
  exact ⟨hO b h1,h2,h3,h4,st,inn,fr,raw,nm,ch,sy,dg,cd,hg,tk,h5,h6,h7.mono hO⟩
theorem LxM.cut {O:Nat → Prop} {w:World} {b P Q:Nat} {er dn:Value} {m:Md} {ts:List Tok} (h:LxM O w b P Q er dn m ts):LxM (fun k=>O k ∧ k < w.heap.size) w b P Q er dn m ts:=by
  obtain ⟨h1,h2,h3,h4,st,inn,fr,raw,nm,ch,sy,dg,cd,hg,tk,h5,h6,h7⟩:=h
  refine ⟨⟨h1,h5.lt⟩,h2,h3,h4,st,inn,fr,raw,nm,ch,sy,dg,cd,hg,tk,h5,?_,⟨h7.1,fun k hk=>⟨h7.2 k hk,own_lt h7.1 k hk⟩⟩⟩
  have hr:∀ v l,Row O w v l → Row (fun k=>O k ∧ k < w.heap.size) w v l:=fun v l hv=>⟨hv.1,fun k hk=>⟨hv.2 k hk,own_lt hv.1 k hk⟩⟩
  have hf:∀ l,Fdr O w Q ch l → Fdr (fun k=>O k ∧ k < w.heap.size) w Q ch l:=fun l hl=>by
    obtain ⟨g,f,h1,h2,h3,h4,h5,h6,h7⟩:=hl
    exact ⟨g,f,h1,h2,h3,h4,h5,h6,h7,h2.lt⟩
  clear h4
  cases m with
  | out=>exact h6
  | num f s r=>obtain ⟨h1,h2,h3,h4,h5⟩:=h6;exact ⟨h1,h2,h3,h4,hr _ _ h5⟩
  | word f r=>obtain ⟨h1,h2,h3,h4,h5⟩:=h6;exact ⟨h1,h2,h3,h4,hr _ _ h5⟩
  | txt f s hh=>obtain ⟨h1,h2,h3,h4,h5,h6,h7⟩:=h6;exact ⟨h1,h2,h3,h4,hr _ _ h5,hf _ h6,h7⟩
  | esc f s=>obtain ⟨h1,h2,h3,h4,h5,h6,h7⟩:=h6;exact ⟨h1,h2,h3,h4,hr _ _ h5,hf _ h6,h7⟩
  | dig f s n c hh=>obtain ⟨h1,h2,h3,h4,h5,h6,h7⟩:=h6;exact ⟨h1,h2,h3,h4,hr _ _ h5,hf _ h6,h7⟩
  | sla f s hh=>obtain ⟨h1,h2,h3,h4,h5,h6,h7⟩:=h6;exact ⟨h1,h2,h3,h4,hr _ _ h5,hf _ h6,h7⟩
  | leu f s hh=>obtain ⟨h1,h2,h3,h4,h5,h6,h7⟩:=h6;exact ⟨h1,h2,h3,h4,hr _ _ h5,hf _ h6,h7⟩
theorem up_of {O:Nat → Prop} {w:World} (k:Nat) (h:O k):up O w k:=.inl h
theorem up_up {O:Nat → Prop} {w w':World} (hs:w.heap.size ≤ w'.heap.size) (k:Nat) (h:up (up O w) w' k):up O w k:=by
  rcases h with h | h
  · exact h
  · exact .inr (by omega)
theorem Fr.up_old {O:Nat → Prop} {w0 w w':World} (h:Fr (up O w0) w w') (h0:Fr O w0 w):Fr O w0 w' :=
  ⟨h.os.trans h0.os,h.tape.trans h0.tape,h.output.trans h0.output,Nat.le_trans h0.size h.size,fun k hk hO=>(h.block k (Nat.lt_of_lt_of_le hk h0.size) (fun h'=>by rcases h' with h' | h';exact hO h';omega)).trans (h0.block k hk hO)⟩
end Go.Proofs.YtgmholdkdppbmaaGreatDoor.Lx

namespace Go.Proofs.YtgmholdkdppbmaaGreatDoor.Lx
open Go.RowKit
attribute [local go_sem ↓] Go.wp_at_zero Go.wp_at_succ
def TOwn (w:World) (v:Value) (ts:List Value):Prop :=
  (v = .slice none 0 0 ∧ ts = []) ∨
  ∃ g o cap cur,v = .slice (some ⟨g,o,none⟩) ts.length cap ∧ Blk w g 35 cur ∧ ts.length ≤ cap ∧ o + cap ≤ cur.size ∧ cap ≤ maxLen ∧ ∀ j,j < ts.length → cur[o + j]? = ts[j]?
theorem town_nil (w:World):TOwn w (.slice none 0 0) []:=.inl ⟨rfl,rfl⟩
theorem town_shape {w:World} {v:Value} {ts:List Value} (h:TOwn w v ts):∃ A c,v = .slice A ts.length c ∧ ts.length ≤ c:=by
  rcases h with ⟨rfl,rfl⟩ | ⟨g,o,cap,cur,rfl,_,h,_⟩
  · exact ⟨none,0,rfl,Nat.le_refl _⟩
  · exact ⟨_,cap,rfl,h⟩
theorem town_of_own {w:World} {B n:Nat} {v:Value} {ts:List Value} (h:w.ownsRow B 35 1 v n ts):TOwn w v ts:=by
  have hl:ts.length = n:=by have:=h.1;simpa using this
  rcases h.2 with ⟨rfl,rfl⟩ | ⟨g,cap,cur,rfl,_,hh,hc,hm,hz,ht⟩
  · exact .inl ⟨rfl,List.eq_nil_of_length_eq_zero hl⟩
  · refine .inr ⟨g,0,cap,cur,by rw [hl],hh,by omega,by omega,hm,fun j hj=>?_⟩
    rw [← ht,Nat.zero_add,List.getElem?_take,if_pos (by simpa [hl] using hj)]
    simp
theorem town_keep {w w':World} {v:Value} {ts:List Value} (h:TOwn w v ts) (hk:∀ k,v.ownBlock = some k → w'.heap[k]? = w.heap[k]?):TOwn w' v ts:=by
  rcases h with h | ⟨g,o,cap,cur,hv,hh,r⟩
  · exact .inl h
  · exact .inr ⟨g,o,cap,cur,hv,(hk g (by rw [hv];rfl)).trans hh,r⟩
theorem town_lt {w:World} {v:Value} {ts:List Value} (h:TOwn w v ts):∀ k,v.ownBlock = some k → k < w.heap.size:=by
  intro k hk
  rcases h with ⟨rfl,_⟩ | ⟨g,o,cap,cur,rfl,hh,r⟩
  · simp [Value.ownBlock] at hk
  · have:g = k:=by simpa [Value.ownBlock] using hk
    subst this
    exact Blk.lt hh
theorem town_apart {w:World} {g:Nat} {t:TypeId} {cs:Array Value} {v:Value} {ts:List Value} (h:TOwn w v ts) (hg:Blk w g t cs) (hne:35 ≠ t):v.ownBlock ≠ some g:=by
  rcases h with ⟨rfl,_⟩ | ⟨g',o,cap,cur,rfl,hh,_⟩
  · simp [Value.ownBlock]
  · intro he
    have:g' = g:=by simpa [Value.ownBlock] using he
    subst this
    exact Blk.apart (t:=35) hh hg hne rfl
theorem town_alloc {w:World} {v:Value} {ts:List Value} (h:TOwn w v ts) (x:Obj):TOwn (w.alloc x) v ts :=
  town_keep h (fun k hk=>Below.heap_alloc w x k (town_lt h k hk))
theorem town_tail {w:World} {A:Option Addr} {n c:Nat} {t:Value} {ts:List Value} (h:TOwn w (.slice A n c) (t :: ts)):TOwn w (.slice (if c = 1 then A else A.map (fun x=>x.add 1)) (n - 1) (c - 1)) ts ∧ n = ts.length + 1 ∧ n ≤ c ∧ ∃ g o,A = some ⟨g,o,none⟩ ∧ w.cell? ⟨g,o,none⟩ = some t:=by
  rcases h with ⟨_,h⟩ | ⟨g,o,cap,cur,hv,hh,h1,h2,h3,h4⟩
  · cases h
  · injection hv with e1 e2 e3
    subst e1 e2 e3
    simp only [List.length_cons] at h1
    refine ⟨.inr ⟨g,if c = 1 then o else o + 1,c - 1,cur,?_,hh,by omega,by split <;> omega,by omega,fun j hj=>?_⟩,rfl,h1,g,o,rfl,?_⟩
    · simp only [List.length_cons,Nat.add_sub_cancel]
      split
      · rfl
      · simp [Addr.add]
    · split
      · omega
      · have:=h4 (j + 1) (by simp;omega)
        simp only [List.getElem?_cons_succ] at this
        rw [← this]
        congr 1
        omega
    · have:=h4 0 (by simp)
      have hb:Blk w g 35 cur:=hh
      have hc:=hb.cell o
      simp at this
      rw [hc]
      exact this
def TRowG (O:Nat → Prop) (w:World) (v:Value) (ts:List Value):Prop:=TOwn w v ts ∧ ∀ k,v.ownBlock = some k → O k
theorem TRowG.mono {O O':Nat → Prop} {w:World} {v:Value} {l:List Value} (h:TRowG O w v l) (hO:∀ k,O k → O' k):TRowG O' w v l:=⟨h.1,fun k hk=>hO k (h.2 k hk)⟩
theorem TRowG.keep {O:Nat → Prop} {w w':World} {v:Value} {l:List Value} (h:TRowG O w v l) (hk:∀ k,v.ownBlock = some k → w'.heap[k]? = w.heap[k]?):TRowG O w' v l:=⟨town_keep h.1 hk,h.2⟩
theorem TRowG.nil (O:Nat → Prop) (w:World):TRowG O w (.slice none 0 0) []:=⟨town_nil w,fun k hk=>by simp [Value.ownBlock] at hk⟩
theorem wpList_tokG {ops:Array Oper} {rest:List Oper} {o:Oper} {a:Act} {Q:Exit → Act → World → Prop} {w:World} (hgd:o.guard = none) (s x:Operand)
    (ho:o.op = .call { callee:=.builtin .append,args:=#[s,x],argTypes:=#[24,24] })
    (A:Option Addr) (n c1:Nat) (ts:List Value) (hs:a.eval s = .slice A n c1) (hown:TOwn w (.slice A n c1) ts) (hl:ts.length = n)
    (g0 c0:Nat) (hx:a.eval x = .slice (some ⟨g0,0,none⟩) 1 c0) (c:Value) (h1:c.oneCell' = true) (hc:w.cell? ⟨g0,0,none⟩ = some c) (hn:n < 1407374883553)
    (h:∀ g o2 cap w',TOwn w' (.slice (some ⟨g,o2,none⟩) (n + 1) cap) (ts ++ [c]) → w.grownBy w' (Value.slice A n c1).ownBlock → ((Value.slice A n c1).ownBlock = some g ∨ w.heap.size ≤ g) → g < w'.heap.size →
      wpList Tryz.prog ops Q rest (a.put o.dst (.slice (some ⟨g,o2,none⟩) (n + 1) cap)) w'):wpList Tryz.prog ops Q (o :: rest) a w:=by
  obtain ⟨i,hi,hz,hsize,hby⟩:=info_parts info_tok
  have hgrow:∀ v' w',w'.ownsRow w.heap.size 35 1 v' (n + 1) (ts ++ [c]) → w.grownBy w' none → wpList Tryz.prog ops Q rest (a.put o.dst v') w':=by
    intro v' w' g1 g2
    have gt:=town_of_own g1
    obtain ⟨g,cap,rfl⟩:∃ g cap,v' = .slice (some ⟨g,0,none⟩) (n + 1) cap:=by
      rcases g1.2 with ⟨_,h0⟩ | ⟨g,cap,cur,hv,_⟩
      · omega
      · exact ⟨g,cap,hv⟩
    have hge:w.heap.size ≤ g:=(g1.lt g rfl).1
    have hlt:=town_lt gt g rfl
    have hgb:w.grownBy w' (Value.slice A n c1).ownBlock:=⟨g2.os,g2.tape,g2.output,g2.size,fun k hk _=>g2.block k hk (by simp)⟩
    exact h g 0 cap w' gt hgb (.inr hge) hlt
  rcases hown with ⟨hv,rfl⟩ | ⟨g,off,cap,cur,hv,hh,k1,k2,k3,k4⟩
  · injection hv with e1 e2 e3
    subst e1 e2 e3
    exact wpList_append_grows w hgd s x 24 ho 35 i .nilIface 1 16 Tryz.underlying24 hi hz hsize hby rfl (by omega) none 0 0 [] hs (fun _=>⟨rfl,rfl⟩) rfl (fun b hb=>by cases hb) ⟨g0,0,none⟩ 1 c0 [c] hx rfl
      (fun j u hj=>by
        cases j with
        | zero=>simp at hj;subst hj;simpa [Addr.add] using hc
        | succ j=>simp at hj) (fun u hu=>by simp at hu;subst hu;exact h1) (by omega) (by unfold maxLen;omega) (by omega) hgrow
  · injection hv with e1 e2 e3
    subst e1 e3
    have hb:Blk w g 35 cur:=hh
    have hcells:∀ j u,ts[j]? = some u → w.cell? ⟨g,off + j,none⟩ = some u:=fun j u hj=>by
      rw [hb.cell,k4 j (List.getElem?_eq_some_iff.1 hj).1,hj]
    refine wpList_append_arg w hgd s x 24 ho 35 i .nilIface 1 16 Tryz.underlying24 hi hz hsize hby rfl (by omega) g off n c1 ts hs (by omega) hcells ⟨g0,0,none⟩ 1 c0 [c] hx rfl
      (fun j u hj=>by
        cases j with
        | zero=>simp at hj;subst hj;simpa [Addr.add] using hc
        | succ j=>simp at hj) (fun u hu=>by simp at hu;subst hu;exact h1) (fun hr j hj=>?_) (by unfold maxLen;omega) (by omega) (fun hr=>?_) (fun _=>hgrow)
    · simp at hj
      subst hj
      refine ⟨?_,hb.frozen _⟩
      rw [hb.cell]
      simp
      omega
    · have hset:w.setCells g (off + n * 1) [c] = w.setCell ⟨g,off + n,none⟩ c:=by simp [World.setCells]
      rw [hset]
      have hb2:=hb.set1 (off + n) c
      refine h g off c1 _ (.inr ⟨g,off,c1,_,by simp [hl],hb2,by simp;omega,by simp;omega,k3,fun j hj=>?_⟩) ⟨rfl,rfl,rfl,by simp [World.setCell],fun k hk hne=>Below.heap_setCell _ _ _ k (fun e=>hne (by subst e;rfl))⟩ (.inl rfl) hb2.lt
      simp only [List.length_append,List.length_cons,List.length_nil] at hj
      by_cases hjn:j < n
      · rw [Array.getElem?_setIfInBounds_ne (by omega),k4 j (by omega),List.getElem?_append_left (by omega)]
      · obtain rfl:j = n:=by omega
        rw [Array.getElem?_setIfInBounds_self_of_lt (by omega),List.getElem?_append_right (by omega)]
        simp [hl]
set_option maxRecDepth 100000 in
theorem tell_anyG (O:Nat → Prop) (b:Nat) (c0 c1 c2 c3 c4 c5 c6 c7 c8 c9 c10 c11 c12 tk:Value) (ty:TypeId) (u:Value) (ts:List Value) (w:World) (hb:Blk w b 80 #[c0,c1,c2,c3,c4,c5,c6,c7,c8,c9,c10,c11,c12,tk]) (hOb:O b)
    (ht:TRowG O w tk ts) (hn:ts.length ≤ 1000000000000) :
    Calls Tryz.prog 47 #[.pointer (some ⟨b,0,none⟩),.iface ty u] w fun e w'=>e = .returned (.tuple #[]) ∧
      (∃ tk',Blk w' b 80 #[c0,c1,c2,fOut,.bool false,c5,c6,c7,c8,c9,c10,c11,c12,tk'] ∧ TRowG (up O w) w' tk' (ts ++ [.iface ty u])) ∧ Fr (fun k=>k = b ∨ tk.ownBlock = some k) w w':=by
  obtain ⟨hown,hO⟩:=ht
  have k13:=hb.cell 13
  simp at k13
  obtain ⟨A,c,rfl,_⟩:=town_shape hown
  obtain ⟨n,hnn⟩:∃ n,ts.length = n:=⟨_,rfl⟩
  rw [hnn] at hown hn hb hO k13 ⊢
  have hap:=town_apart hown hb (by decide)
  have HB:=Lib.hid hb
  have HO:=Lib.hid hown
  have HN:=Lib.hid hnn
  clear hb hown hnn
  have hw1:TOwn (w.alloc (.cells #[.iface ty u] 35)) (.slice A n c) ts:=town_alloc HO.out _
  have hb1:=HB.out.alloc (.cells #[.iface ty u] 35)
  have hcl:(w.alloc (.cells #[.iface ty u] 35)).cell? ⟨w.heap.size,0,none⟩ = some (.iface ty u):=by rw [(Blk.new w 35 #[.iface ty u]).cell];rfl
  have HW1:=Lib.hid hw1
  have HB1:=Lib.hid hb1
  clear hw1 hb1
  go_enter Tryz.func47,Tryz.ntmps47
  go_wp2_with (at_builtin;refine wpList_tokG rfl (.tmp 8) (.tmp 10) rfl A n c ts rfl HW1.out HN.out _ _ rfl _ rfl hcl (by omega) ?_;intro g o2 cap w1 hown1 hg1 hat1 hlt1;have hbw:=HB1.out.grown hg1 (Ne.symm hap);have HBW:=Lib.hid hbw;have f13:=hbw.frozen 13;have k13':=hbw.cell 13;have f3:=hbw.frozen 3;have k3:=hbw.cell 3;have f4:=hbw.frozen 4;have k4:=hbw.cell 4;simp at k13' k3 k4;clear hbw)
  have he1:∀ k,k ≠ b → (((w1.setCell ⟨b,13,none⟩ (.slice (some ⟨g,o2,none⟩) (n + 1) cap)).setCell ⟨b,4,none⟩ (.bool false)).setCell ⟨b,3,none⟩ fOut).heap[k]? = w1.heap[k]?:=fun k hk=>by
    rw [Below.heap_setCell _ _ _ k hk,Below.heap_setCell _ _ _ k hk,Below.heap_setCell _ _ _ k hk]
  have hbl:=((HBW.out.set1 13 (.slice (some ⟨g,o2,none⟩) (n + 1) cap)).set1 4 (.bool false)).set1 3 fOut
  have hgb:g ≠ b:=fun h=>by
    rcases hat1 with h' | h'
    · exact hap (h'.trans (by rw [h]))
    · have:=HB.out.lt
      simp at h'
      omega
  have hbw:Fr (fun k=>k = b ∨ (Value.slice A n c).ownBlock = some k) w w1:=((Fr.refl _ w).alloc _).grown hg1 (fun k hk=>.inr hk)
  go_end0
  refine ⟨rfl,⟨_,by simpa using hbl,?_,?_⟩,((hbw.setCell (p:=⟨b,13,none⟩) (.inl rfl) _).setCell (p:=⟨b,4,none⟩) (.inl rfl) _).setCell (p:=⟨b,3,none⟩) (.inl rfl) _⟩
  · exact town_keep hown1 (fun k hk=>he1 k (by
      have:g = k:=by simpa [Value.ownBlock] using hk
      omega))
  · intro k hk
    have hk':g = k:=by simpa [Value.ownBlock] using hk
    subst hk'
    rcases hat1 with h' | h'
    · exact .inl (hO g h')
    · exact .inr (by simp at h';omega)
end Go.Proofs.YtgmholdkdppbmaaGreatDoor.Lx

namespace Go.Proofs.YtgmholdkdppbmaaGreatDoor.Lx
open Go.RowKit
section
variable {f n c h s:Nat} {r r2:List UInt8}
end
def LxMG (O:Nat → Prop) (w:World) (b P Q:Nat) (er dn:Value) (m:Md) (ts:List Tok):Prop :=
  O b ∧ Q ≤ 16777217 ∧ ts.length + tn m ≤ 2 * Q ∧ MdOk Q m ∧ ∃ st inn fr raw nm ch sy dg cd hg tk,
    Blk w b 80 #[.int .i64 (P:Nat),er,dn,st,inn,fr,raw,nm,ch,sy,dg,cd,hg,tk] ∧ MdM O w Q m st inn fr raw nm ch sy dg cd hg ∧ TRowG O w tk (ts.map tokV)
def LxXG (O:Nat → Prop) (w:World) (b P:Nat) (er dn:Value) (no q:Nat) (ts:List Tok):Prop :=
  O b ∧ P ≤ 16777216 ∧ ts.length ≤ 2 * (P + 1) ∧ (no = 41 ∨ q = P) ∧ ∃ st inn fr raw nm ch sy dg cd hg tk,
    Blk w b 80 #[.int .i64 (P:Nat),er,dn,st,inn,fr,raw,nm,ch,sy,dg,cd,hg,tk] ∧ (no = 41 → fr = .int .i64 (q:Nat)) ∧ TRowG O w tk (ts.map tokV)
def StPG (O:Nat → Prop) (w:World) (b P:Nat) (er dn:Value) (ts:List Tok) (r:Rs) (e:Ending) (w':World):Prop:=match r with
  | .go m' t=>e = .returned (.int .i64 0) ∧ LxMG (up O w) w' b P (P + 1) er dn m' (ts ++ t) ∧ Fr O w w'
  | .bad no q t=>e = .returned (.int .i64 (no:Nat)) ∧ no ≠ 0 ∧ no < 100 ∧ LxXG (up O w) w' b P er dn no q (ts ++ t) ∧ Fr O w w'
theorem LxMG.below {O:Nat → Prop} {w w':World} {b P Q:Nat} {er dn:Value} {m:Md} {ts:List Tok} (h:LxMG O w b P Q er dn m ts) (hb:Below w.heap.size w w'):LxMG O w' b P Q er dn m ts:=by
  obtain ⟨h1,h2,h3,h4,st,inn,fr,raw,nm,ch,sy,dg,cd,hg,tk,h5,h6,h7⟩:=h
  exact ⟨h1,h2,h3,h4,st,inn,fr,raw,nm,ch,sy,dg,cd,hg,tk,h5.below hb h5.lt,h6.keep (fun k t cs s hk _ _=>hb.block k (Array.getElem?_eq_some_iff.1 hk).1),h7.keep (fun k hk=>hb.block k (town_lt h7.1 k hk))⟩
theorem LxMG.apart {O O2:Nat → Prop} {w w':World} {b P Q:Nat} {er dn:Value} {m:Md} {ts:List Tok} (h:LxMG O w b P Q er dn m ts) (hf:Fr O2 w w') (hO:∀ k,k < w.heap.size → O k → ¬ O2 k):LxMG O w' b P Q er dn m ts:=by
  obtain ⟨h1,h2,h3,h4,st,inn,fr,raw,nm,ch,sy,dg,cd,hg,tk,h5,h6,h7⟩:=h
  refine ⟨h1,h2,h3,h4,st,inn,fr,raw,nm,ch,sy,dg,cd,hg,tk,(hf.block b h5.lt (hO b h5.lt h1)).trans h5,h6.keep (fun k t cs s hk _ hOk=>?_),h7.keep (fun k hk=>?_)⟩
  · have hlt:=(Array.getElem?_eq_some_iff.1 hk).1
    exact hf.block k hlt (hO k hlt hOk)
  · have hlt:=town_lt h7.1 k hk
    exact hf.block k hlt (hO k hlt (h7.2 k hk))
theorem LxMG.mono {O O':Nat → Prop} {w:World} {b P Q:Nat} {er dn:Value} {m:Md} {ts:List Tok} (h:LxMG O w b P Q er dn m ts) (hO:∀ k,O k → O' k):LxMG O' w b P Q er dn m ts:=by
  obtain ⟨h1,h2,h3,h4,st,inn,fr,raw,nm,ch,sy,dg,cd,hg,tk,h5,h6,h7⟩:=h
  exact ⟨hO b h1,h2,h3,h4,st,inn,fr,raw,nm,ch,sy,dg,cd,hg,tk,h5,h6.mono hO (Nat.le_refl _),h7.mono hO⟩
theorem LxXG.mono {O O':Nat → Prop} {w:World} {b P:Nat} {er dn:Value} {no q:Nat} {ts:List Tok} (h:LxXG O w b P er dn no q ts) (hO:∀ k,O k → O' k):LxXG O' w b P er dn no q ts:=by
  obtain ⟨h1,h2,h3,h4,st,inn,fr,raw,nm,ch,sy,dg,cd,hg,tk,h5,h6,h7⟩:=h
  exact ⟨hO b h1,h2,h3,h4,st,inn,fr,raw,nm,ch,sy,dg,cd,hg,tk,h5,h6,h7.mono hO⟩
theorem LxMG.cut {O:Nat → Prop} {w:World} {b P Q:Nat} {er dn:Value} {m:Md} {ts:List Tok} (h:LxMG O w b P Q er dn m ts):LxMG (fun k=>O k ∧ k < w.heap.size) w b P Q er dn m ts:=by
  obtain ⟨h1,h2,h3,h4,st,inn,fr,raw,nm,ch,sy,dg,cd,hg,tk,h5,h6,h7⟩:=h
  refine ⟨⟨h1,h5.lt⟩,h2,h3,h4,st,inn,fr,raw,nm,ch,sy,dg,cd,hg,tk,h5,?_,⟨h7.1,fun k hk=>⟨h7.2 k hk,town_lt h7.1 k hk⟩⟩⟩
  have hr:∀ v l,Row O w v l → Row (fun k=>O k ∧ k < w.heap.size) w v l:=fun v l hv=>⟨hv.1,fun k hk=>⟨hv.2 k hk,own_lt hv.1 k hk⟩⟩
  have hf:∀ l,Fdr O w Q ch l → Fdr (fun k=>O k ∧ k < w.heap.size) w Q ch l:=fun l hl=>by
    obtain ⟨g,f,h1,h2,h3,h4,h5,h6,h7⟩:=hl
    exact ⟨g,f,h1,h2,h3,h4,h5,h6,h7,h2.lt⟩
  clear h4
  cases m with
  | out=>exact h6
  | num f s r=>obtain ⟨h1,h2,h3,h4,h5⟩:=h6;exact ⟨h1,h2,h3,h4,hr _ _ h5⟩
  | word f r=>obtain ⟨h1,h2,h3,h4,h5⟩:=h6;exact ⟨h1,h2,h3,h4,hr _ _ h5⟩
  | txt f s hh=>obtain ⟨h1,h2,h3,h4,h5,h6,h7⟩:=h6;exact ⟨h1,h2,h3,h4,hr _ _ h5,hf _ h6,h7⟩
  | esc f s=>obtain ⟨h1,h2,h3,h4,h5,h6,h7⟩:=h6;exact ⟨h1,h2,h3,h4,hr _ _ h5,hf _ h6,h7⟩
  | dig f s n c hh=>obtain ⟨h1,h2,h3,h4,h5,h6,h7⟩:=h6;exact ⟨h1,h2,h3,h4,hr _ _ h5,hf _ h6,h7⟩
  | sla f s hh=>obtain ⟨h1,h2,h3,h4,h5,h6,h7⟩:=h6;exact ⟨h1,h2,h3,h4,hr _ _ h5,hf _ h6,h7⟩
  | leu f s hh=>obtain ⟨h1,h2,h3,h4,h5,h6,h7⟩:=h6;exact ⟨h1,h2,h3,h4,hr _ _ h5,hf _ h6,h7⟩
end Go.Proofs.YtgmholdkdppbmaaGreatDoor.Lx

namespace Go.Proofs.YtgmholdkdppbmaaGreatDoor
open Go.RowKit
theorem ei_u8:EI Tryz.prog 22 5 (.int .u8 0) 1:=⟨Tryz.underlying22,info_parts info_u8,rfl,rfl⟩
theorem codeK_le (s:List UInt8) (i n:Nat):∀ k,codeK s i n k ≤ 260 * 64 ^ k - 4
  | 0=>by
    have:=bt_lt s i
    show c0 (bt s i) n ≤ 260 * 1 - 4
    unfold c0
    (repeat' split) <;> omega
  | k + 1=>by
    have h1:=codeK_le s i n k
    have h2:=bt_lt s (i + (k + 1))
    have h3:0 < 64 ^ k:=Nat.pow_pos (by decide)
    show 64 * codeK s i n k + bt s (i + (k + 1)) - 128 ≤ 260 * (64 ^ k * 64) - 4
    omega
theorem codeK_bd (s:List UInt8) (i n k:Nat) (h:k ≤ 3):codeK s i n k ≤ 68157440:=by
  have h1:=codeK_le s i n k
  have h2:64 ^ k ≤ 64 ^ 3:=Nat.pow_le_pow_right (by decide) h
  omega
theorem bget (s:List UInt8) (i:Nat) (h:i < s.length):((⟨s.toArray⟩:ByteArray)[i]'h).toNat = bt s i:=(bt_get s i h).symm
def AtV (c:Ch):Value:=.tuple #[.int .i32 (c.r:Nat),.int .i64 (c.n:Nat),.int .i64 (c.e:Nat),.int .i64 (c.p:Nat)]
theorem at_bad {s:List UInt8} {i x p:Nat} (h:chAt s i = ⟨0,0,x,p⟩):AtV (chAt s i) = .tuple #[.int .i32 0,.int .i64 0,.int .i64 x,.int .i64 p]:=by rw [h];rfl
theorem at_ok {s:List UInt8} {i r n:Nat} (h:chAt s i = ⟨r,n,0,0⟩):AtV (chAt s i) = .tuple #[.int .i32 r,.int .i64 n,.int .i64 0,.int .i64 0]:=by rw [h];rfl
set_option maxRecDepth 100000 in
set_option maxHeartbeats 1000000 in
theorem rat_any (s:List UInt8) (i:Nat) (w:World) (hi:i < s.length) (hn:s.length ≤ 1000000000000000000) :
    Calls Tryz.prog 70 #[.string ⟨s.toArray⟩,.int .i64 i] w fun e w'=>e = .returned (AtV (chAt s i)) ∧ w = w':=by
  have hb0:=bget s i hi
  have hlt:=bt_lt s i
  have hw:=wd_le (bt s i)
  by_cases h0:wd (bt s i) = 0
  · rw [at_bad (chAt_none h0)]
    have HW:=Lib.hid (fun W=>wide_any (bt s i) W hlt)
    rw [h0] at HW
    clear hw h0
    generalize bt s i = c0 at *
    go_enter Tryz.func70,Tryz.ntmps70
    go_wp2_with (go_at_call 87;(with_reducible refine (HW.out _).mono ?_);rintro e w1 ⟨rfl,rfl⟩)
    exact bodyPost_ret (v:=.tuple #[.int .i32 0,.int .i64 0,.int .i64 30,.int .i64 i]) (by simp [results,Tryz.results70,go_sem]) rfl ⟨rfl,rfl⟩
  have hcases:wd (bt s i) = 1 ∨ wd (bt s i) = 2 ∨ wd (bt s i) = 3 ∨ wd (bt s i) = 4:=by omega
  clear hw h0
  rcases hcases with hm | hm | hm | hm
  · have HW:=Lib.hid (fun W=>wide_any (bt s i) W hlt)
    rw [hm] at HW
    have HM:=Lib.hid hm
    clear hm
    obtain ⟨b0,hbe⟩:∃ b0,b0 = bt s i:=⟨_,rfl⟩
    rw [← hbe] at hb0 hlt HW
    have HBE:=Lib.hid hbe
    clear hbe
    go_enter Tryz.func70,Tryz.ntmps70
    go_wp2_with (go_at_call 87;(with_reducible refine (HW.out _).mono ?_);rintro e w1 ⟨rfl,rfl⟩)
    go_loop [9,10] (fun k c=>∃ j:Nat,1 ≤ j ∧ j ≤ 1 ∧ k = .int .i64 j ∧ firstBad s i 1 1 = firstBad s i 1 j) (fun k _=>1 - (intOf k).toNat)
    case atStart=>exact ⟨1,by omega,by omega,rfl,rfl⟩
    case round =>
      obtain ⟨j,hj1,hjm,rfl,hfb⟩:=hrel
      have HFB:=Lib.hid hfb
      clear hfb
      obtain rfl:j = 1:=by omega
      have hce:chAt s i = ⟨code s i 1,1,0,0⟩:=chAt_ok HM.out (by omega) (firstBad_end (Nat.le_refl _))
      rw [code1,← HBE.out] at hce
      have HCE:=Lib.hid hce
      clear hce
      go_wp2
      go_loop [11,12] (fun x k=>x = .int .i64 b0 ∧ k = .int .i64 1) (fun _ k=>0)
      case atStart=>exact ⟨rfl,rfl⟩
      case round =>
        obtain ⟨rfl,rfl⟩:=hrel
        go_wp2
        exact bodyPost_ret (v:=.tuple #[.int .i32 b0,.int .i64 1,.int .i64 0,.int .i64 0]) (by simp [results,Tryz.results70,go_sem]) rfl ⟨by rw [at_ok HCE.out];rfl,rfl⟩
  · have HW:=Lib.hid (fun W=>wide_any (bt s i) W hlt)
    rw [hm] at HW
    have HM:=Lib.hid hm
    clear hm
    obtain ⟨b0,hbe⟩:∃ b0,b0 = bt s i:=⟨_,rfl⟩
    rw [← hbe] at hb0 hlt HW
    have HBE:=Lib.hid hbe
    clear hbe
    go_enter Tryz.func70,Tryz.ntmps70
    go_wp2_with (go_at_call 87;(with_reducible refine (HW.out _).mono ?_);rintro e w1 ⟨rfl,rfl⟩)
    go_loop [9,10] (fun k c=>∃ j:Nat,1 ≤ j ∧ j ≤ 2 ∧ k = .int .i64 j ∧ firstBad s i 2 1 = firstBad s i 2 j) (fun k _=>2 - (intOf k).toNat)
    case atStart=>exact ⟨1,by omega,by omega,rfl,rfl⟩
    case round =>
      obtain ⟨j,hj1,hjm,rfl,hfb⟩:=hrel
      have HFB:=Lib.hid hfb
      clear hfb
      by_cases hjlt:j < 2
      · by_cases hend:i + j < s.length
        · have hbj:=bget s (i + j) hend
          have hdl:=bt_lt s (i + j)
          by_cases hok:okb (bt s i) j (bt s (i + j)) = true
          · have hst:=firstBad_on (s:=s) (i:=i) (n:=2) (k:=j) hjlt hend hok
            have HST:=Lib.hid hst
            have hcont:=okb_cont hok
            by_cases hj:j = 1
            · subst hj
              have HS:=Lib.hid (fun W=>second_any (bt s i) (bt s (i + 1)) W (bt_lt s i) hdl)
              rw [secB_ok,hok,← HBE.out] at HS
              clear hst hok
              generalize bt s (i + 1) = d at *
              go_wp2_with (go_at_call 88;(with_reducible refine (HS.out _).mono ?_);rintro e w1 ⟨rfl,rfl⟩)
              go_round
              case rel=>exact ⟨1 + 1,by omega,by omega,by go_num,by rw [HST.out]⟩
              case measure=>simp [intOf]
            · have e1:((j:Int) == 1) = false:=by simp;omega
              clear hst hok
              generalize bt s (i + j) = d at *
              try (exfalso;omega)
              all_goals
                go_wp2
                go_round
                case rel=>exact ⟨j + 1,by omega,by omega,by go_num,by rw [HFB.out,HST.out]⟩
                case measure=>simp [intOf];omega
          · have hce:chAt s i = ⟨0,0,30,i + j⟩:=chAt_byte (n:=2) HM.out (by omega) (by rw [HFB.out];exact firstBad_here hjlt (fun h=>hok h.2)) hjlt hend
            have HCE:=Lib.hid hce
            clear hce
            by_cases hj:j = 1
            · subst hj
              have hok':okb (bt s i) 1 (bt s (i + 1)) = false:=by simpa using hok
              have HS:=Lib.hid (fun W=>second_any (bt s i) (bt s (i + 1)) W (bt_lt s i) hdl)
              rw [secB_ok,hok',← HBE.out] at HS
              clear hok hok'
              generalize bt s (i + 1) = d at *
              go_wp2_with (go_at_call 88;(with_reducible refine (HS.out _).mono ?_);rintro e w1 ⟨rfl,rfl⟩)
              exact bodyPost_ret (v:=.tuple #[.int .i32 0,.int .i64 0,.int .i64 30,.int .i64 ((i:Int) + 1)]) (by simp [results,Tryz.results70,go_sem]) rfl ⟨by rw [at_bad HCE.out];rfl,rfl⟩
            · have e1:((j:Int) == 1) = false:=by simp;omega
              have hd:bt s (i + j) < 128 ∨ 191 < bt s (i + j):=by
                rcases Nat.lt_or_ge (bt s (i + j)) 128 with h | h
                · exact .inl h
                · rcases Nat.lt_or_ge 191 (bt s (i + j)) with h2 | h2
                  · exact .inr h2
                  · exact absurd (by unfold okb;rw [if_neg hj];exact decide_eq_true ⟨h,h2⟩) hok
              clear hok
              generalize bt s (i + j) = d at *
              try (exfalso;omega)
              all_goals rcases hd with hd | hd
              all_goals
                go_wp2
                exact bodyPost_ret (v:=.tuple #[.int .i32 0,.int .i64 0,.int .i64 30,.int .i64 ((i:Int) + j)]) (by simp [results,Tryz.results70,go_sem]) rfl ⟨by rw [at_bad HCE.out];rfl,rfl⟩
        · have hce:chAt s i = ⟨0,0,31,s.length⟩:=chAt_cut (n:=2) HM.out (by omega) (by rw [HFB.out];exact firstBad_here hjlt (fun h=>hend h.1)) hjlt hend
          have HCE:=Lib.hid hce
          clear hce
          go_wp2
          exact bodyPost_ret (v:=.tuple #[.int .i32 0,.int .i64 0,.int .i64 31,.int .i64 s.length]) (by simp [results,Tryz.results70,go_sem]) rfl ⟨by rw [at_bad HCE.out];rfl,rfl⟩
      · obtain rfl:j = 2:=by omega
        have hfb:=HFB.out
        rw [firstBad_end (Nat.le_refl _)] at hfb
        have hce:chAt s i = ⟨code s i 2,2,0,0⟩:=chAt_ok HM.out (by omega) hfb
        have hall:=(firstBad_spec s i 2 1 (by omega)).2.2.1
        rw [hfb] at hall
        have HCE:=Lib.hid hce
        have HALL:=Lib.hid hall
        have hb192:192 ≤ b0:=by
          have:=HM.out
          rw [← HBE.out] at this
          unfold wd at this
          (repeat' split at this) <;> omega
        have hc0:codeK s i 2 0 = b0 - 192:=by rw [HBE.out];rfl
        have HC0:=Lib.hid hc0
        clear hce hall hfb hc0
        go_wp2
        go_loop [11,12] (fun x k=>∃ j q:Nat,j = q + 1 ∧ j ≤ 2 ∧ k = .int .i64 j ∧ x = .int .i64 (codeK s i 2 q:Nat)) (fun _ k=>2 - (intOf k).toNat)
        case atStart=>exact ⟨1,0,rfl,by omega,rfl,by rw [HC0.out];congr 1;omega⟩
        case round =>
          obtain ⟨j,q,hjq,hj,rfl,rfl⟩:=hrel
          have HJQ:=Lib.hid hjq
          have hj1:1 ≤ j:=by omega
          have hbd:=codeK_bd s i 2 q (by omega)
          clear hjq
          by_cases hlt2:j < 2
          · obtain ⟨hl2,hok2⟩:=HALL.out j hj1 hlt2
            have hbj:=bget s (i + j) hl2
            have hco:=okb_cont hok2
            have hst:codeK s i 2 j = 64 * codeK s i 2 q + bt s (i + j) - 128:=by rw [HJQ.out];rfl
            have HST:=Lib.hid hst
            clear hok2 hst
            generalize bt s (i + j) = d at *
            generalize codeK s i 2 q = x at *
            go_wp2
            go_round
            case rel=>exact ⟨j + 1,j,rfl,by omega,by go_num,by rw [HST.out];congr 1;omega⟩
            case measure=>simp [intOf];omega
          · obtain rfl:j = 2:=by omega
            obtain rfl:q = 2 - 1:=by have:=HJQ.out;omega
            have hx:((codeK s i 2 (2 - 1):Nat):Int) ≤ 68157440:=by omega
            have HX:Hid (chAt s i = ⟨codeK s i 2 (2 - 1),2,0,0⟩):=HCE.out
            clear hbd hlt2 hj hj1 HJQ
            generalize codeK s i 2 (2 - 1) = x at *
            go_wp2
            exact bodyPost_ret (v:=.tuple #[.int .i32 x,.int .i64 2,.int .i64 0,.int .i64 0]) (by simp [results,Tryz.results70,go_sem]) rfl ⟨by rw [at_ok HX.out];rfl,rfl⟩
  · have HW:=Lib.hid (fun W=>wide_any (bt s i) W hlt)
    rw [hm] at HW
    have HM:=Lib.hid hm
    clear hm
    obtain ⟨b0,hbe⟩:∃ b0,b0 = bt s i:=⟨_,rfl⟩
    rw [← hbe] at hb0 hlt HW
    have HBE:=Lib.hid hbe
    clear hbe
    go_enter Tryz.func70,Tryz.ntmps70
    go_wp2_with (go_at_call 87;(with_reducible refine (HW.out _).mono ?_);rintro e w1 ⟨rfl,rfl⟩)
    go_loop [9,10] (fun k c=>∃ j:Nat,1 ≤ j ∧ j ≤ 3 ∧ k = .int .i64 j ∧ firstBad s i 3 1 = firstBad s i 3 j) (fun k _=>3 - (intOf k).toNat)
    case atStart=>exact ⟨1,by omega,by omega,rfl,rfl⟩
    case round =>
      obtain ⟨j,hj1,hjm,rfl,hfb⟩:=hrel
      have HFB:=Lib.hid hfb
      clear hfb
      by_cases hjlt:j < 3
      · by_cases hend:i + j < s.length
        · have hbj:=bget s (i + j) hend
          have hdl:=bt_lt s (i + j)
          by_cases hok:okb (bt s i) j (bt s (i + j)) = true
          · have hst:=firstBad_on (s:=s) (i:=i) (n:=3) (k:=j) hjlt hend hok
            have HST:=Lib.hid hst
            have hcont:=okb_cont hok
            by_cases hj:j = 1
            · subst hj
              have HS:=Lib.hid (fun W=>second_any (bt s i) (bt s (i + 1)) W (bt_lt s i) hdl)
              rw [secB_ok,hok,← HBE.out] at HS
              clear hst hok
              generalize bt s (i + 1) = d at *
              go_wp2_with (go_at_call 88;(with_reducible refine (HS.out _).mono ?_);rintro e w1 ⟨rfl,rfl⟩)
              go_round
              case rel=>exact ⟨1 + 1,by omega,by omega,by go_num,by rw [HST.out]⟩
              case measure=>simp [intOf]
            · have e1:((j:Int) == 1) = false:=by simp;omega
              clear hst hok
              generalize bt s (i + j) = d at *
              try (exfalso;omega)
              all_goals
                go_wp2
                go_round
                case rel=>exact ⟨j + 1,by omega,by omega,by go_num,by rw [HFB.out,HST.out]⟩
                case measure=>simp [intOf];omega
          · have hce:chAt s i = ⟨0,0,30,i + j⟩:=chAt_byte (n:=3) HM.out (by omega) (by rw [HFB.out];exact firstBad_here hjlt (fun h=>hok h.2)) hjlt hend
            have HCE:=Lib.hid hce
            clear hce
            by_cases hj:j = 1
            · subst hj
              have hok':okb (bt s i) 1 (bt s (i + 1)) = false:=by simpa using hok
              have HS:=Lib.hid (fun W=>second_any (bt s i) (bt s (i + 1)) W (bt_lt s i) hdl)
              rw [secB_ok,hok',← HBE.out] at HS
              clear hok hok'
              generalize bt s (i + 1) = d at *
              go_wp2_with (go_at_call 88;(with_reducible refine (HS.out _).mono ?_);rintro e w1 ⟨rfl,rfl⟩)
              exact bodyPost_ret (v:=.tuple #[.int .i32 0,.int .i64 0,.int .i64 30,.int .i64 ((i:Int) + 1)]) (by simp [results,Tryz.results70,go_sem]) rfl ⟨by rw [at_bad HCE.out];rfl,rfl⟩
            · have e1:((j:Int) == 1) = false:=by simp;omega
              have hd:bt s (i + j) < 128 ∨ 191 < bt s (i + j):=by
                rcases Nat.lt_or_ge (bt s (i + j)) 128 with h | h
                · exact .inl h
                · rcases Nat.lt_or_ge 191 (bt s (i + j)) with h2 | h2
                  · exact .inr h2
                  · exact absurd (by unfold okb;rw [if_neg hj];exact decide_eq_true ⟨h,h2⟩) hok
              clear hok
              generalize bt s (i + j) = d at *
              try (exfalso;omega)
              all_goals rcases hd with hd | hd
              all_goals
                go_wp2
                exact bodyPost_ret (v:=.tuple #[.int .i32 0,.int .i64 0,.int .i64 30,.int .i64 ((i:Int) + j)]) (by simp [results,Tryz.results70,go_sem]) rfl ⟨by rw [at_bad HCE.out];rfl,rfl⟩
        · have hce:chAt s i = ⟨0,0,31,s.length⟩:=chAt_cut (n:=3) HM.out (by omega) (by rw [HFB.out];exact firstBad_here hjlt (fun h=>hend h.1)) hjlt hend
          have HCE:=Lib.hid hce
          clear hce
          go_wp2
          exact bodyPost_ret (v:=.tuple #[.int .i32 0,.int .i64 0,.int .i64 31,.int .i64 s.length]) (by simp [results,Tryz.results70,go_sem]) rfl ⟨by rw [at_bad HCE.out];rfl,rfl⟩
      · obtain rfl:j = 3:=by omega
        have hfb:=HFB.out
        rw [firstBad_end (Nat.le_refl _)] at hfb
        have hce:chAt s i = ⟨code s i 3,3,0,0⟩:=chAt_ok HM.out (by omega) hfb
        have hall:=(firstBad_spec s i 3 1 (by omega)).2.2.1
        rw [hfb] at hall
        have HCE:=Lib.hid hce
        have HALL:=Lib.hid hall
        have hb192:224 ≤ b0:=by
          have:=HM.out
          rw [← HBE.out] at this
          unfold wd at this
          (repeat' split at this) <;> omega
        have hc0:codeK s i 3 0 = b0 - 224:=by rw [HBE.out];rfl
        have HC0:=Lib.hid hc0
        clear hce hall hfb hc0
        go_wp2
        go_loop [11,12] (fun x k=>∃ j q:Nat,j = q + 1 ∧ j ≤ 3 ∧ k = .int .i64 j ∧ x = .int .i64 (codeK s i 3 q:Nat)) (fun _ k=>3 - (intOf k).toNat)
        case atStart=>exact ⟨1,0,rfl,by omega,rfl,by rw [HC0.out];congr 1;omega⟩
        case round =>
          obtain ⟨j,q,hjq,hj,rfl,rfl⟩:=hrel
          have HJQ:=Lib.hid hjq
          have hj1:1 ≤ j:=by omega
          have hbd:=codeK_bd s i 3 q (by omega)
          clear hjq
          by_cases hlt2:j < 3
          · obtain ⟨hl2,hok2⟩:=HALL.out j hj1 hlt2
            have hbj:=bget s (i + j) hl2
            have hco:=okb_cont hok2
            have hst:codeK s i 3 j = 64 * codeK s i 3 q + bt s (i + j) - 128:=by rw [HJQ.out];rfl
            have HST:=Lib.hid hst
            clear hok2 hst
            generalize bt s (i + j) = d at *
            generalize codeK s i 3 q = x at *
            go_wp2
            go_round
            case rel=>exact ⟨j + 1,j,rfl,by omega,by go_num,by rw [HST.out];congr 1;omega⟩
            case measure=>simp [intOf];omega
          · obtain rfl:j = 3:=by omega
            obtain rfl:q = 3 - 1:=by have:=HJQ.out;omega
            have hx:((codeK s i 3 (3 - 1):Nat):Int) ≤ 68157440:=by omega
            have HX:Hid (chAt s i = ⟨codeK s i 3 (3 - 1),3,0,0⟩):=HCE.out
            clear hbd hlt2 hj hj1 HJQ
            generalize codeK s i 3 (3 - 1) = x at *
            go_wp2
            exact bodyPost_ret (v:=.tuple #[.int .i32 x,.int .i64 3,.int .i64 0,.int .i64 0]) (by simp [results,Tryz.results70,go_sem]) rfl ⟨by rw [at_ok HX.out];rfl,rfl⟩
  · have HW:=Lib.hid (fun W=>wide_any (bt s i) W hlt)
    rw [hm] at HW
    have HM:=Lib.hid hm
    clear hm
    obtain ⟨b0,hbe⟩:∃ b0,b0 = bt s i:=⟨_,rfl⟩
    rw [← hbe] at hb0 hlt HW
    have HBE:=Lib.hid hbe
    clear hbe
    go_enter Tryz.func70,Tryz.ntmps70
    go_wp2_with (go_at_call 87;(with_reducible refine (HW.out _).mono ?_);rintro e w1 ⟨rfl,rfl⟩)
    go_loop [9,10] (fun k c=>∃ j:Nat,1 ≤ j ∧ j ≤ 4 ∧ k = .int .i64 j ∧ firstBad s i 4 1 = firstBad s i 4 j) (fun k _=>4 - (intOf k).toNat)
    case atStart=>exact ⟨1,by omega,by omega,rfl,rfl⟩
    case round =>
      obtain ⟨j,hj1,hjm,rfl,hfb⟩:=hrel
      have HFB:=Lib.hid hfb
      clear hfb
      by_cases hjlt:j < 4
      · by_cases hend:i + j < s.length
        · have hbj:=bget s (i + j) hend
          have hdl:=bt_lt s (i + j)
          by_cases hok:okb (bt s i) j (bt s (i + j)) = true
          · have hst:=firstBad_on (s:=s) (i:=i) (n:=4) (k:=j) hjlt hend hok
            have HST:=Lib.hid hst
            have hcont:=okb_cont hok
            by_cases hj:j = 1
            · subst hj
              have HS:=Lib.hid (fun W=>second_any (bt s i) (bt s (i + 1)) W (bt_lt s i) hdl)
              rw [secB_ok,hok,← HBE.out] at HS
              clear hst hok
              generalize bt s (i + 1) = d at *
              go_wp2_with (go_at_call 88;(with_reducible refine (HS.out _).mono ?_);rintro e w1 ⟨rfl,rfl⟩)
              go_round
              case rel=>exact ⟨1 + 1,by omega,by omega,by go_num,by rw [HST.out]⟩
              case measure=>simp [intOf]
            · have e1:((j:Int) == 1) = false:=by simp;omega
              clear hst hok
              generalize bt s (i + j) = d at *
              try (exfalso;omega)
              all_goals
                go_wp2
                go_round
                case rel=>exact ⟨j + 1,by omega,by omega,by go_num,by rw [HFB.out,HST.out]⟩
                case measure=>simp [intOf];omega
          · have hce:chAt s i = ⟨0,0,30,i + j⟩:=chAt_byte (n:=4) HM.out (by omega) (by rw [HFB.out];exact firstBad_here hjlt (fun h=>hok h.2)) hjlt hend
            have HCE:=Lib.hid hce
            clear hce
            by_cases hj:j = 1
            · subst hj
              have hok':okb (bt s i) 1 (bt s (i + 1)) = false:=by simpa using hok
              have HS:=Lib.hid (fun W=>second_any (bt s i) (bt s (i + 1)) W (bt_lt s i) hdl)
              rw [secB_ok,hok',← HBE.out] at HS
              clear hok hok'
              generalize bt s (i + 1) = d at *
              go_wp2_with (go_at_call 88;(with_reducible refine (HS.out _).mono ?_);rintro e w1 ⟨rfl,rfl⟩)
              exact bodyPost_ret (v:=.tuple #[.int .i32 0,.int .i64 0,.int .i64 30,.int .i64 ((i:Int) + 1)]) (by simp [results,Tryz.results70,go_sem]) rfl ⟨by rw [at_bad HCE.out];rfl,rfl⟩
            · have e1:((j:Int) == 1) = false:=by simp;omega
              have hd:bt s (i + j) < 128 ∨ 191 < bt s (i + j):=by
                rcases Nat.lt_or_ge (bt s (i + j)) 128 with h | h
                · exact .inl h
                · rcases Nat.lt_or_ge 191 (bt s (i + j)) with h2 | h2
                  · exact .inr h2
                  · exact absurd (by unfold okb;rw [if_neg hj];exact decide_eq_true ⟨h,h2⟩) hok
              clear hok
              generalize bt s (i + j) = d at *
              try (exfalso;omega)
              all_goals rcases hd with hd | hd
              all_goals
                go_wp2
                exact bodyPost_ret (v:=.tuple #[.int .i32 0,.int .i64 0,.int .i64 30,.int .i64 ((i:Int) + j)]) (by simp [results,Tryz.results70,go_sem]) rfl ⟨by rw [at_bad HCE.out];rfl,rfl⟩
        · have hce:chAt s i = ⟨0,0,31,s.length⟩:=chAt_cut (n:=4) HM.out (by omega) (by rw [HFB.out];exact firstBad_here hjlt (fun h=>hend h.1)) hjlt hend
          have HCE:=Lib.hid hce
          clear hce
          go_wp2
          exact bodyPost_ret (v:=.tuple #[.int .i32 0,.int .i64 0,.int .i64 31,.int .i64 s.length]) (by simp [results,Tryz.results70,go_sem]) rfl ⟨by rw [at_bad HCE.out];rfl,rfl⟩
      · obtain rfl:j = 4:=by omega
        have hfb:=HFB.out
        rw [firstBad_end (Nat.le_refl _)] at hfb
        have hce:chAt s i = ⟨code s i 4,4,0,0⟩:=chAt_ok HM.out (by omega) hfb
        have hall:=(firstBad_spec s i 4 1 (by omega)).2.2.1
        rw [hfb] at hall
        have HCE:=Lib.hid hce
        have HALL:=Lib.hid hall
        have hb192:240 ≤ b0:=by
          have:=HM.out
          rw [← HBE.out] at this
          unfold wd at this
          (repeat' split at this) <;> omega
        have hc0:codeK s i 4 0 = b0 - 240:=by rw [HBE.out];rfl
        have HC0:=Lib.hid hc0
        clear hce hall hfb hc0
        go_wp2
        go_loop [11,12] (fun x k=>∃ j q:Nat,j = q + 1 ∧ j ≤ 4 ∧ k = .int .i64 j ∧ x = .int .i64 (codeK s i 4 q:Nat)) (fun _ k=>4 - (intOf k).toNat)
        case atStart=>exact ⟨1,0,rfl,by omega,rfl,by rw [HC0.out];congr 1;omega⟩
        case round =>
          obtain ⟨j,q,hjq,hj,rfl,rfl⟩:=hrel
          have HJQ:=Lib.hid hjq
          have hj1:1 ≤ j:=by omega
          have hbd:=codeK_bd s i 4 q (by omega)
          clear hjq
          by_cases hlt2:j < 4
          · obtain ⟨hl2,hok2⟩:=HALL.out j hj1 hlt2
            have hbj:=bget s (i + j) hl2
            have hco:=okb_cont hok2
            have hst:codeK s i 4 j = 64 * codeK s i 4 q + bt s (i + j) - 128:=by rw [HJQ.out];rfl
            have HST:=Lib.hid hst
            clear hok2 hst
            generalize bt s (i + j) = d at *
            generalize codeK s i 4 q = x at *
            go_wp2
            go_round
            case rel=>exact ⟨j + 1,j,rfl,by omega,by go_num,by rw [HST.out];congr 1;omega⟩
            case measure=>simp [intOf];omega
          · obtain rfl:j = 4:=by omega
            obtain rfl:q = 4 - 1:=by have:=HJQ.out;omega
            have hx:((codeK s i 4 (4 - 1):Nat):Int) ≤ 68157440:=by omega
            have HX:Hid (chAt s i = ⟨codeK s i 4 (4 - 1),4,0,0⟩):=HCE.out
            clear hbd hlt2 hj hj1 HJQ
            generalize codeK s i 4 (4 - 1) = x at *
            go_wp2
            exact bodyPost_ret (v:=.tuple #[.int .i32 x,.int .i64 4,.int .i64 0,.int .i64 0]) (by simp [results,Tryz.results70,go_sem]) rfl ⟨by rw [at_ok HX.out];rfl,rfl⟩
end Go.Proofs.YtgmholdkdppbmaaGreatDoor

namespace Go.Proofs.YtgmholdkdppbmaaGreatDoor
open Go.RowKit
def W64:Nat:=18446744073709551616
theorem W64_pow:W64 = 2 ^ 64:=rfl
abbrev wv (n:Nat):Value:=.int .u64 (n:Int)
theorem wrapM (a:Nat):IntKind.u64.wrap (a:Int) = ((a % W64:Nat):Int):=by unfold W64;rw [IntKind.wrap_u64];omega
theorem wrapN (a:Nat) (ha:a < W64):IntKind.u64.wrap (a:Int) = (a:Int):=by unfold W64 at ha;rw [IntKind.wrap_u64];omega
def addLo (x y c:Nat):Nat:=(x + y + c) % W64
def addHi (x y c:Nat):Nat:=(x + y + c) / W64
def subLo (x y b:Nat):Nat:=(x + W64 - y - b) % W64
def subHi (x y b:Nat):Nat:=if x < y + b then 1 else 0
theorem add_eq (x y c:Nat):addLo x y c + W64 * addHi x y c = x + y + c:=Nat.mod_add_div _ _
theorem addLo_lt (x y c:Nat):addLo x y c < W64:=Nat.mod_lt _ (by unfold W64;omega)
theorem addHi_le {x y c:Nat} (hx:x < W64) (hy:y < W64) (hc:c ≤ 1):addHi x y c ≤ 1:=by unfold addHi W64 at *;omega
theorem sub_eq {x y b:Nat} (hx:x < W64) (hy:y < W64) (hb:b ≤ 1):subLo x y b + y + b = x + W64 * subHi x y b:=by
  unfold subLo subHi W64 at *
  split <;> omega
theorem subLo_lt (x y b:Nat):subLo x y b < W64:=Nat.mod_lt _ (by unfold W64;omega)
theorem subHi_le (x y b:Nat):subHi x y b ≤ 1:=by unfold subHi;split <;> omega
theorem mul_lt {x y:Nat} (hx:x < W64) (hy:y < W64):x * y / W64 < W64 - 1:=by
  unfold W64 at *
  have h:x * y ≤ 18446744073709551615 * 18446744073709551615:=Nat.mul_le_mul (by omega) (by omega)
  omega
def subE:Array Value → Sem Value:=(Extern.MathBitsCarry.rows.getD 1 ("",fun _=>pure .nilIface)).2
theorem run_subE {P:Program} (x y b:Nat) (hb:b ≤ 1) (w:World) :
    (subE #[.int .u64 x,.int .u64 y,.int .u64 b]).run P w = .ok (.tuple #[.int .u64 ((subLo x y b:Nat):Int),.int .u64 ((subHi x y b:Nat):Int)]) w:=by
  have:b = 0 ∨ b = 1:=by omega
  rcases this with rfl | rfl <;> rfl
theorem call_add (x y c:Nat) (hc:c ≤ 1) (w:World) :
    (callFunc 124 #[.int .u64 x,.int .u64 y,.int .u64 c]).run Tryz.prog w = .ok (.value (.tuple #[.int .u64 ((addLo x y c:Nat):Int),.int .u64 ((addHi x y c:Nat):Int)])) w:=by
  rw [run_callFunc_extern Tryz.func124 (by kernel_rfl) (by kernel_rfl) (by kernel_rfl) (e:=add64Entry) (by kernel_rfl),run_add64 x y c (by omega) (by omega) (by omega) (by omega)]
  simp only [Result.andThen]
  unfold addLo addHi W64
  congr 5 <;> omega
theorem call_sub (x y b:Nat) (hb:b ≤ 1) (w:World) :
    (callFunc 153 #[.int .u64 x,.int .u64 y,.int .u64 b]).run Tryz.prog w = .ok (.value (.tuple #[.int .u64 ((subLo x y b:Nat):Int),.int .u64 ((subHi x y b:Nat):Int)])) w:=by
  rw [run_callFunc_extern Tryz.func153 (by kernel_rfl) (by kernel_rfl) (by kernel_rfl) (e:=subE) (by kernel_rfl),run_subE x y b hb]
  rfl
theorem call_add0 (x y:Nat) (w:World) :
    (callFunc 124 #[.int .u64 x,.int .u64 y,.int .u64 0]).run Tryz.prog w = .ok (.value (.tuple #[.int .u64 ((addLo x y 0:Nat):Int),.int .u64 ((addHi x y 0:Nat):Int)])) w:=call_add x y 0 (by omega) w
theorem mul64 (x y:Nat) (hx:x < W64) (hy:y < W64) (w:World) :
    Calls Tryz.prog 123 #[.int .u64 x,.int .u64 y] w fun e w'=>e = .returned (.tuple #[wv (x * y / W64),wv (x * y % W64)]) ∧ w = w' :=
  (Tryz.bits_Mul64 x y hx hy w).mono fun _ _ ⟨h1,h2⟩=>⟨h1,h2.symm⟩
def blen (x:Nat):Nat:=if x = 0 then 0 else x.log2 + 1
theorem blen_le {x k:Nat}:blen x ≤ k ↔ x < 2 ^ k:=by
  unfold blen
  by_cases h:x = 0
  · rw [if_pos h,h];simp [Nat.pow_pos]
  · rw [if_neg h,← Nat.log2_lt h];omega
theorem blen_lt (x:Nat):x < 2 ^ blen x:=blen_le.1 (Nat.le_refl _)
theorem blen_ge {x:Nat} (h:x ≠ 0):2 ^ (blen x - 1) ≤ x:=by
  have h1:¬ blen x ≤ blen x - 1:=by unfold blen;rw [if_neg h];omega
  rw [blen_le] at h1
  omega
theorem blen_pos {x:Nat} (h:x ≠ 0):0 < blen x:=by unfold blen;rw [if_neg h];omega
theorem blen_zero:blen 0 = 0:=rfl
theorem blen_eq {x k:Nat} (h1:x < 2 ^ k) (h2:2 ^ k ≤ 2 * x):blen x = k:=by
  have a:=blen_le.2 h1
  rcases Nat.lt_or_ge (blen x) k with h | h
  · have b:blen x ≤ k - 1:=by omega
    rw [blen_le] at b
    obtain ⟨j,rfl⟩:∃ j,k = j + 1:=⟨k - 1,by omega⟩
    rw [Nat.pow_succ] at h2
    simp at b
    omega
  · omega
theorem blen_mul (x k:Nat) (h:x ≠ 0):blen (x * 2 ^ k) = blen x + k:=by
  have a:=blen_lt x
  have b:=blen_ge h
  have c:=blen_pos h
  refine blen_eq ?_ ?_
  · rw [Nat.pow_add];exact Nat.mul_lt_mul_of_pos_right a (Nat.pow_pos (by omega))
  · obtain ⟨j,hj⟩:∃ j,blen x = j + 1:=⟨blen x - 1,by omega⟩
    rw [hj,Nat.add_sub_cancel] at b
    rw [hj,show j + 1 + k = (j + k) + 1 by omega,Nat.pow_succ,Nat.pow_add]
    have:=Nat.mul_le_mul_right (2 ^ k) b
    omega
theorem blen_mono {x y:Nat} (h:x ≤ y):blen x ≤ blen y:=blen_le.2 (Nat.lt_of_le_of_lt h (blen_lt y))
theorem blen_div (x k:Nat):blen (x / 2 ^ k) = blen x - k:=by
  apply Nat.le_antisymm
  · rw [blen_le]
    rw [Nat.div_lt_iff_lt_mul (Nat.pow_pos (by omega)),← Nat.pow_add]
    exact Nat.lt_of_lt_of_le (blen_lt x) (Nat.pow_le_pow_right (by omega) (by omega))
  · have h:¬ blen (x / 2 ^ k) < blen x - k:=by
      intro h
      have h1:=blen_lt (x / 2 ^ k)
      rw [Nat.div_lt_iff_lt_mul (Nat.pow_pos (by omega)),← Nat.pow_add] at h1
      have:=blen_le.2 h1
      omega
    omega
theorem bitLen_blen:∀ x,x < W64 → Lib.bitLen x = blen x:=by
  have key:∀ f x,x < 2 ^ f → Lib.bitLenAux f x = blen x:=by
    intro f
    induction f with
    | zero=>intro x hx;have h0:x = 0:=(by simpa using hx);subst h0;rfl
    | succ f ih =>
      intro x hx
      unfold Lib.bitLenAux
      by_cases h0:x = 0
      · rw [if_pos h0,h0];rfl
      · rw [if_neg h0,ih _ (by rw [Nat.pow_succ] at hx;omega)]
        have h1:=blen_div x 1
        have h2:=blen_pos h0
        rw [Nat.pow_one] at h1
        omega
  intro x hx
  exact key 64 x hx
theorem len64 (x:Nat) (hx:x < W64) (w:World) :
    Calls Tryz.prog 142 #[.int .u64 x] w fun e w'=>e = .returned (.int .i64 (blen x:Nat)) ∧ w = w' :=
  (Tryz.bits_Len64 x w (by omega) (by unfold W64 at hx;omega)).mono fun _ _ ⟨h1,h2⟩=>⟨by rw [h1,Int.toNat_natCast,bitLen_blen x hx],h2.symm⟩
theorem blen_le64 {x:Nat} (hx:x < W64):blen x ≤ 64:=blen_le.2 hx
end Go.Proofs.YtgmholdkdppbmaaGreatDoor

namespace Go.Proofs.YtgmholdkdppbmaaGreatDoor
structure Dg (y a b u v q r:Nat):Prop where
  hy:y = a * 4294967296 + b
  hb:b < 4294967296
  ha:4294967296 ≤ 2 * a
  hu:u < y
  hv:v < 4294967296
  eq:u = q * a + r
  hr:r < 4294967296
  le:(u * 4294967296 + v) / y ≤ q
  hq:q ≤ 4294967297
theorem Dg.start {y a b u v:Nat} (hy:y = a * 4294967296 + b) (hb:b < 4294967296) (ha:4294967296 ≤ 2 * a) (ha':a < 4294967296) (hu:u < y) (hv:v < 4294967296):Dg y a b u v (u / a) (u % a):=by
  have ha0:0 < a:=by omega
  have e:=Nat.div_add_mod' u a
  have hm:=Nat.mod_lt u ha0
  refine ⟨hy,hb,ha,hu,hv,e.symm,by omega,?_,?_⟩
  · rw [Nat.le_div_iff_mul_le ha0]
    have h1:=Nat.div_mul_le_self (u * 4294967296 + v) y
    generalize (u * 4294967296 + v) / y = Q at *
    rw [hy,Nat.mul_add,← Nat.mul_assoc] at h1
    generalize Q * a = x at *
    generalize Q * b = z at *
    omega
  · rw [← Nat.lt_succ_iff,Nat.div_lt_iff_lt_mul ha0]
    show u < (4294967297 + 1) * a
    omega
theorem Dg.mul {y a b u v q r:Nat} (h:Dg y a b u v q r) (k:Nat):k * y = k * a * 4294967296 + k * b:=by
  rw [h.hy,Nat.mul_add,Nat.mul_assoc]
theorem Dg.more {y a b u v q r:Nat} (h:Dg y a b u v q r) (hm:4294967296 ≤ q ∨ 4294967296 * r + v < q * b):(u * 4294967296 + v) / y + 1 ≤ q:=by
  have hy0:0 < y:=by have:=h.hu;omega
  rw [Nat.succ_le_iff,Nat.div_lt_iff_lt_mul hy0]
  have hu:=h.hu
  have hv:=h.hv
  rcases hm with h1 | h1
  · have h2:4294967296 * y ≤ q * y:=Nat.mul_le_mul_right y h1
    omega
  · have h2:=h.mul q
    have h3:=h.eq
    generalize q * a = x at *
    omega
theorem Dg.on {y a b u v q r:Nat} (h:Dg y a b u v q r) (hm:4294967296 ≤ q ∨ 4294967296 * r + v < q * b) (hr:r + a < 4294967296):Dg y a b u v (q - 1) (r + a):=by
  have h1:=h.more hm
  refine ⟨h.hy,h.hb,h.ha,h.hu,h.hv,?_,hr,by omega,by have:=h.hq;omega⟩
  have hq1:1 ≤ q:=Nat.le_trans (Nat.le_add_left 1 _) h1
  obtain ⟨p,rfl⟩:∃ p,q = p + 1:=⟨q - 1,by omega⟩
  have h3:=h.eq
  rw [Nat.add_mul,Nat.one_mul] at h3
  simp only [Nat.add_sub_cancel]
  omega
end Go.Proofs.YtgmholdkdppbmaaGreatDoor

namespace Go.Proofs.YtgmholdkdppbmaaGreatDoor
open Go.RowKit
theorem orN {H L s:Nat} (h:∃ k,H = k * 2 ^ s) (hL:L < 2 ^ s) (hH:H + L < W64):bits .or .u64 (H:Int) (L:Int) = ((H + L:Nat):Int):=by
  obtain ⟨k,rfl⟩:=h
  have h1:(BitVec.ofInt 64 ((k * 2 ^ s:Nat):Int)).toNat = k * 2 ^ s:=by
    rw [BitVec.ofInt_natCast,BitVec.toNat_ofNat];exact Nat.mod_eq_of_lt (by unfold W64 at hH;omega)
  have h2:(BitVec.ofInt 64 (L:Int)).toNat = L:=by
    rw [BitVec.ofInt_natCast,BitVec.toNat_ofNat];exact Nat.mod_eq_of_lt (by unfold W64 at hH;omega)
  show IntKind.u64.wrap ((BitVec.ofInt 64 ((k * 2 ^ s:Nat):Int) ||| BitVec.ofInt 64 (L:Int)).toNat:Int) = _
  rw [BitVec.toNat_or,h1,h2]
  have:=Nat.two_pow_add_eq_or_of_lt (b:=L) (i:=s) hL k
  rw [Nat.mul_comm k,← this]
  exact wrapN _ (by rw [Nat.mul_comm];exact hH)
theorem shl_w (x s:Nat):IntKind.u64.wrap ((x:Int) * 2 ^ s) = ((x * 2 ^ s % W64:Nat):Int):=by
  have:(x:Int) * 2 ^ s = ((x * 2 ^ s:Nat):Int):=by rw [Int.natCast_mul,Int.natCast_pow];rfl
  rw [this,wrapM]
theorem shr_w (x s:Nat):(x:Int) / 2 ^ s = ((x / 2 ^ s:Nat):Int):=by rw [Int.natCast_ediv,Int.natCast_pow];rfl
theorem mul_w (x y:Nat):IntKind.u64.wrap ((x:Int) * (y:Int)) = ((x * y % W64:Nat):Int):=by rw [← Int.natCast_mul,wrapM]
end Go.Proofs.YtgmholdkdppbmaaGreatDoor

namespace Go.Proofs.YtgmholdkdppbmaaGreatDoor
open Go.RowKit
section
variable {P:Program} {t e:TypeId} {z:Value} {bytes:Nat}
end
theorem Blk.read {w:World} {g:Nat} {t:TypeId} {cs:Array Value} (hb:Blk w g t cs) (off:Nat) (xs:List Value) (n:Nat) (hn:xs.length = n) (h:∀ j (hj:j < xs.length),cs[off + j]? = some xs[j]):RV w (g + 1) (some ⟨g,off,none⟩) n xs :=
  ⟨hn,fun _=>⟨g,off,rfl,by omega,fun j hj=>by rw [hb.cell];exact h j hj⟩⟩
theorem RV.fresh (w:World) (t:TypeId) (xs:List Value):RV (w.alloc (.cells xs.toArray t)) (w.heap.size + 1) (some ⟨w.heap.size,0,none⟩) xs.length xs :=
  (Blk.read (Blk.new w t xs.toArray) 0 xs xs.length rfl (fun j hj=>by simp [hj]))
theorem below_new (w:World) (o:Obj):Below w.heap.size w (w.alloc o):=(Below.refl _ _).alloc (Nat.le_refl _) _
end Go.Proofs.YtgmholdkdppbmaaGreatDoor
