/-
  Texts of the proof of 'LexG': Calm, Scope, DecA, FltQ, Parse.
-/
import Derived.Test.YtgmholdkdppbmaaGreatDoorLexGAA
import Derived.Test.YtgmholdkdppbmaaGreatDoorLexGAB
import Derived.Test.YtgmholdkdppbmaaGreatDoorLexGAC
import Derived.Test.YtgmholdkdppbmaaGreatDoorLexGAD
import Derived.Below
import Derived.Scope
import Derived.WalkMore
import Derived.Deep.DeepCutAuto
import Derived.IntWalk
import Derived.WalkSpells
import Derived.Deep.LoopGhost
set_option linter.unusedVariables false
set_option linter.unusedSimpArgs false
namespace Go.Proofs.YtgmholdkdppbmaaGreatDoor
open Go.RowKit
def Stays (S:World → Prop):Prop:=∀ w w',S w → Below w.heap.size w w' → S w'
def CGives (P:Program) (v:Value) (w:World):Result Next → Prop
  | .ok (.value u) w'=>u = v ∧ Below w.heap.size w w'
  | .ok .skip w'=>undef = v ∧ Below w.heap.size w w'
  | .ok (.enter f args) w'=>Calls P f args w' fun e w''=>e = .returned v ∧ Below w.heap.size w w''
  | _=>False
theorem CGives_value (P:Program) (v u:Value) (w w':World):CGives P v w (.ok (.value u) w') = (u = v ∧ Below w.heap.size w w'):=rfl
theorem CGives_skip (P:Program) (v:Value) (w w':World):CGives P v w (.ok .skip w') = (undef = v ∧ Below w.heap.size w w'):=rfl
theorem CGives_enter (P:Program) (v:Value) (f:FuncId) (args:Array Value) (w w':World):CGives P v w (.ok (.enter f args) w') = Calls P f args w' fun e w''=>e = .returned v ∧ Below w.heap.size w w'':=rfl
def Calm (P:Program) (ops:Array Oper) (S:World → Prop) (o:Oper) (v:Value) (a:Act):Prop :=
  (Region.wanted o (yielded ops a.tmps) = true ∧ ∀ w,S w → CGives P v w ((execOp a.eval o).run P w)) ∨
  (Region.wanted o (yielded ops a.tmps) = false ∧ undef = v)
def MGives (P:Program) (K:Value → World → Prop):Result Next → Prop
  | .ok (.value u) w'=>K u w'
  | .ok .skip w'=>K undef w'
  | .ok (.enter f args) w'=>Calls P f args w' fun e w''=>∃ v,e = .returned v ∧ K v w''
  | _=>False
theorem MGives_value (P:Program) (K:Value → World → Prop) (u:Value) (w':World):MGives P K (.ok (.value u) w') = K u w':=rfl
theorem MGives_skip (P:Program) (K:Value → World → Prop) (w':World):MGives P K (.ok .skip w') = K undef w':=rfl
theorem MGives_enter (P:Program) (K:Value → World → Prop) (f:FuncId) (args:Array Value) (w':World):MGives P K (.ok (.enter f args) w') = Calls P f args w' fun e w''=>∃ v,e = .returned v ∧ K v w'':=rfl
def pureB (o:Oper):Bool:=match o.op with
  | .extract ..=>true
  | _=>false
theorem pure_calm {P:Program} {ρ:Operand → Value} {o:Oper} (h:pureB o = true) {v:Value} {w:World} (hg:CGives P v w ((execOp ρ o).run P w)) (w':World):CGives P v w' ((execOp ρ o).run P w'):=by
  obtain ⟨dst,op,type,pos,after,guard⟩:=o
  cases op <;> simp only [pureB] at h <;> try (cases h)
  rename_i t ix
  simp only [execOp] at hg ⊢
  generalize ρ t = x at *
  cases x <;> simp only [Instr.extract] at hg ⊢ <;> try (simp [go_sem,CGives] at hg;done)
  rename_i vs
  cases hx:vs[ix]? with
  | none=>rw [hx] at hg;simp [go_sem,CGives] at hg
  | some u =>
    rw [hx] at hg
    simp [go_sem,CGives] at hg ⊢
    exact ⟨hg.1,Below.refl _ _⟩
def reachB (ops:Array Oper):Nat → Nat → Nat → Bool
  | 0,_,_=>false
  | n + 1,i,k=>match ops[i]? with
    | none=>false
    | some o=>o.after.any fun e=>Region.binds .any e && (e.on == k || reachB ops n e.on k)
def waitsB (ops:Array Oper) (l:Array Bool) (i:Nat):Bool :=
  match ops[i]? with
  | none=>false
  | some o=>(List.range ops.size).all fun k=>!l.getD k false || o.after.any (fun e=>Region.binds .any e && e.on == k) || (match ops[k]? with | some p=>pureB p | none=>false) || reachB ops ops.size i k
def Way (P:Program) (ops:Array Oper) (Q:Exit → Act → World → Prop):Nat → Array Bool → Act → (World → Prop) → Prop
  | 0,listed,b,S=>Region.ready .any ops listed = [] ∧ ∀ w,S w → Q .normal b w
  | fuel + 1,listed,b,S =>
    (Region.ready .any ops listed = [] ∧ ∀ w,S w → Q .normal b w) ∨
    (∃ i o v,i ∈ Region.ready .any ops listed ∧ ops[i]? = some o ∧ Calm P ops S o v b ∧ Way P ops Q fuel (listed.setIfInBounds i true) (b.put o.dst v) S) ∨
    (Region.ready .any ops listed ≠ [] ∧ ∀ i ∈ Region.ready .any ops listed,∃ o,ops[i]? = some o ∧ Region.wanted o (yielded ops b.tmps) = true ∧
      ∀ w,S w → MGives P (fun v w'=>∃ S',Stays S' ∧ ((∀ x,S' x → S x) ∨ waitsB ops listed i = true) ∧ S' w' ∧ Way P ops Q fuel (listed.setIfInBounds i true) (b.put o.dst v) S') ((execOp b.eval o).run P w))
def On (l:Array Bool) (k:Nat):Prop:=l.getD k false = true
theorem on_set {l:Array Bool} {i k:Nat} (hi:i < l.size):On (l.setIfInBounds i true) k ↔ On l k ∨ k = i:=by
  unfold On
  by_cases h:i = k
  · subst h;simp [Array.getD_eq_getD_getElem?,hi]
  · rw [getD_set_ne false h];simp [Ne.symm h]
theorem ready_iff {ops:Array Oper} {l:Array Bool} (hs:l.size = ops.size) {j:Nat}:j ∈ Region.ready .any ops l ↔ ∃ o,ops[j]? = some o ∧ ¬ On l j ∧ ∀ e ∈ o.after,Region.binds .any e = true → On l e.on:=by
  rw [mem_ready]
  constructor
  · rintro ⟨h0,o,ho,h⟩
    refine ⟨o,ho,?_,h⟩
    have hlt:=(Array.getElem?_eq_some_iff.1 ho).1
    unfold On
    simp only [Array.getD_eq_getD_getElem?,hs,hlt,Array.getElem?_eq_getElem,Option.getD_some] at h0 ⊢
    simp [h0]
  · rintro ⟨o,ho,h0,h⟩
    refine ⟨?_,o,ho,h⟩
    have hlt:=(Array.getElem?_eq_some_iff.1 ho).1
    unfold On at h0
    simp only [Array.getD_eq_getD_getElem?,hs,hlt,Array.getElem?_eq_getElem,Option.getD_some] at h0 ⊢
    simpa using h0
theorem ready_all {ops:Array Oper} (ok:SureOk ops) {l:Array Bool} (hs:l.size = ops.size) (hr:Region.ready .any ops l = []):∀ n i,i < n → i < ops.size → On l i:=by
  intro n
  induction n with
  | zero=>intro i hi;omega
  | succ n ih =>
    intro i hi hlt
    rcases Classical.em (On l i) with h | h
    · exact h
    · exfalso
      have:i ∈ Region.ready .any ops l:=(ready_iff hs).2 ⟨ops[i],Array.getElem?_eq_getElem hlt,h,fun e he hb=>by
        have hup:=ok.up i ops[i] (Array.getElem?_eq_getElem hlt) e he hb
        exact ih e.on (by omega) (by omega)⟩
      rw [hr] at this;cases this
structure Pend (P:Program) (ops:Array Oper) (S:World → Prop) (l l':Array Bool) (I:List (Nat × Value)) (a b:Act):Prop where
  sz:l.size = ops.size
  sz':l'.size = ops.size
  on:∀ k,On l' k ↔ On l k ∨ ∃ v,(k,v) ∈ I
  nd:(I.map (·.1)).Nodup
  pend:∀ (k:Nat) (v:Value),(k,v) ∈ I → ∃ o:Oper,ops[k]? = some o ∧ ¬ On l k ∧ Calm P ops S o v b ∧ (∀ e ∈ o.after,Region.binds .any e = true → On l' e.on) ∧ (∀ d,o.dst = some d → d < b.tmps.size → b.tmps[d]? = some v)
  defers:a.defers = b.defers
  size:a.tmps.size = b.tmps.size
  same:∀ (t:Nat),(∀ (k:Nat) (v:Value) (o:Oper),(k,v) ∈ I → ops[k]? = some o → o.dst ≠ some t) → a.tmps[t]? = b.tmps[t]?
theorem put_get_ne {a:Act} {d:Option Tmp} {v:Value} {t:Nat} (h:d ≠ some t):(a.put d v).tmps[t]? = a.tmps[t]?:=by
  cases d with
  | none=>rfl
  | some d=>simp only [Act.put];exact Array.getElem?_setIfInBounds_ne fun e=>h (by rw [e])
theorem put_get {a:Act} {t:Nat} {v:Value} (h:t < a.tmps.size):(a.put (some t) v).tmps[t]? = some v:=by simp [Act.put,h]
theorem put_size (a:Act) (d:Option Tmp) (v:Value):(a.put d v).tmps.size = a.tmps.size:=by cases d <;> simp [Act.put]
theorem put_defers' (a:Act) (d:Option Tmp) (v:Value):(a.put d v).defers = a.defers:=by cases d <;> rfl
theorem Calm.looks {P:Program} {ops:Array Oper} {S:World → Prop} {o:Oper} {v:Value} {a a':Act} (hs:∀ cs b,o.op ≠ .select cs b) (h:∀ t ∈ o.looksAt ops,a.tmps[t]? = a'.tmps[t]?) (hy:Calm P ops S o v a) :
    Calm P ops S o v a':=by
  unfold Calm at *
  rw [← eval_looks hs h,← wanted_looks h]
  exact hy
theorem Calm.mono {P:Program} {ops:Array Oper} {S S':World → Prop} {o:Oper} {v:Value} {a:Act} (h:∀ x,S' x → S x) (hy:Calm P ops S o v a):Calm P ops S' o v a :=
  hy.imp (fun ⟨hw,hv⟩=>⟨hw,fun w hs=>hv w (h w hs)⟩) id
theorem Calm.wpOp {P:Program} {ops:Array Oper} {S:World → Prop} {Q:Exit → Act → World → Prop} {i:Nat} {o:Oper} {v:Value} {a:Act} (hi:ops[i]? = some o) (hy:Calm P ops S o v a)
    {K:Act → World → Prop} {w:World} (hS:S w) (hst:Stays S) (h:∀ w',S w' → K (a.put o.dst v) w'):wpOp P ops Q i K a w:=by
  unfold Go.wpOp
  simp only [hi]
  rcases hy with ⟨hw,hv⟩ | ⟨hw,rfl⟩
  · simp only [hw,if_true]
    refine .inl ?_
    have hh:=hv w hS
    unfold Oper.wp
    generalize (execOp a.eval o).run P w = r at *
    cases r with
    | ok n w' =>
      cases n <;> simp only [Oper.upon] <;> simp only [CGives] at hh
      case value u=>obtain ⟨rfl,hs⟩:=hh;exact h _ (hst _ _ hS hs)
      case skip=>obtain ⟨rfl,hs⟩:=hh;exact h _ (hst _ _ hS hs)
      case enter f args=>exact Calls.mono hh fun e w'' ⟨he,hs⟩=>by subst he;exact h _ (hst _ _ hS hs)
    | halt x w'=>simp [CGives] at hh
  · simp only [hw,Bool.false_eq_true,if_false];exact h _ hS
theorem moves_wpOp {P:Program} {ops:Array Oper} {Q:Exit → Act → World → Prop} {i:Nat} {o:Oper} {a:Act} (hi:ops[i]? = some o) (hw:Region.wanted o (yielded ops a.tmps) = true)
    {K:Act → World → Prop} {w:World} (h:MGives P (fun v w'=>K (a.put o.dst v) w') ((execOp a.eval o).run P w)):wpOp P ops Q i K a w:=by
  unfold Go.wpOp
  simp only [hi,hw,if_true]
  refine .inl ?_
  unfold Oper.wp
  generalize (execOp a.eval o).run P w = r at *
  cases r with
  | ok n w' =>
    cases n <;> simp only [Oper.upon] <;> simp only [MGives] at h
    case value u=>exact h
    case skip=>exact h
    case enter f args=>exact Calls.mono h fun e w'' ⟨v,he,hs⟩=>by subst he;exact hs
  | halt x w'=>simp [MGives] at h
theorem MGives.mono {P:Program} {K K':Value → World → Prop} {r:Result Next} (h:MGives P K r) (hk:∀ v w,K v w → K' v w):MGives P K' r:=by
  cases r with
  | ok n w' =>
    cases n <;> simp only [MGives] at h ⊢
    case value u=>exact hk _ _ h
    case skip=>exact hk _ _ h
    case enter f args=>exact Calls.mono h fun e w'' ⟨v,he,hs⟩=>⟨v,he,hk _ _ hs⟩
  | halt x w'=>simp [MGives] at h
theorem Pend.looks {P:Program} {ops:Array Oper} (ok:SureOk ops) {S:World → Prop} {l l':Array Bool} {I:List (Nat × Value)} {a b:Act} (h:Pend P ops S l l' I a b) {j:Nat} {o:Oper} (hj:ops[j]? = some o)
    (hd:∀ e ∈ o.after,Region.binds .any e = true → On l e.on):∀ t ∈ o.looksAt ops,a.tmps[t]? = b.tmps[t]?:=fun t ht =>
  h.same t fun k v p hk hp hdst=>by
    obtain ⟨e,he,hb,rfl⟩:=ok.look j o k p t hj hp hdst ht
    obtain ⟨p',_,hn,_⟩:=h.pend _ v hk
    exact hn (hd e he hb)
theorem Pend.run {P:Program} {ops:Array Oper} (ok:SureOk ops) {S:World → Prop} {l l':Array Bool} {I1 I2:List (Nat × Value)} {a b:Act} {j:Nat} {v:Value} {o:Oper} (h:Pend P ops S l l' (I1 ++ (j,v) :: I2) a b) (hj:ops[j]? = some o) :
    Pend P ops S (l.setIfInBounds j true) l' (I1 ++ I2) (a.put o.dst v) b:=by
  have hlt:=(Array.getElem?_eq_some_iff.1 hj).1
  have hlt':j < l.size:=by rw [h.sz];exact hlt
  have sub:∀ p,p ∈ I1 ++ I2 → p ∈ I1 ++ (j,v) :: I2:=fun p hp=>by
    rcases List.mem_append.1 hp with hp | hp
    · exact List.mem_append.2 (.inl hp)
    · exact List.mem_append.2 (.inr (List.mem_cons_of_mem _ hp))
  have hself:(j,v) ∈ I1 ++ (j,v) :: I2:=List.mem_append.2 (.inr List.mem_cons_self)
  have hne:∀ k u,(k,u) ∈ I1 ++ I2 → k ≠ j:=fun k u hk he=>by
    subst he
    have hnd:=h.nd
    rw [List.map_append,List.map_cons,List.nodup_append] at hnd
    obtain ⟨_,h2,h3⟩:=hnd
    rcases List.mem_append.1 hk with hk | hk
    · exact h3 _ (List.mem_map_of_mem (f:=(·.1)) hk) _ List.mem_cons_self rfl
    · exact (List.nodup_cons.1 h2).1 (List.mem_map_of_mem (f:=(·.1)) hk)
  refine ⟨by simpa using h.sz,h.sz',fun k=>?_,?_,fun k u hk=>?_,?_,?_,fun t ht=>?_⟩
  · rw [h.on,on_set hlt']
    constructor
    · rintro (hk | ⟨u,hu⟩)
      · exact .inl (.inl hk)
      · by_cases hkj:k = j
        · exact .inl (.inr hkj)
        · refine .inr ⟨u,?_⟩
          rcases List.mem_append.1 hu with hu | hu
          · exact List.mem_append.2 (.inl hu)
          · rcases List.mem_cons.1 hu with hu | hu
            · cases hu;exact absurd rfl hkj
            · exact List.mem_append.2 (.inr hu)
    · rintro ((hk | rfl) | ⟨u,hu⟩)
      · exact .inl hk
      · exact .inr ⟨v,hself⟩
      · exact .inr ⟨u,sub _ hu⟩
  · have hnd:=h.nd
    rw [List.map_append,List.map_cons,List.nodup_append] at hnd
    obtain ⟨h1,h2,h3⟩:=hnd
    rw [List.map_append,List.nodup_append]
    exact ⟨h1,(List.nodup_cons.1 h2).2,fun x hx y hy=>h3 x hx y (List.mem_cons_of_mem _ hy)⟩
  · obtain ⟨p,hp,hn,hc,hd,hv⟩:=h.pend k u (sub _ hk)
    exact ⟨p,hp,(fun hon=>by rcases (on_set hlt').1 hon with hon | he;exact hn hon;exact hne k u hk he),hc,hd,hv⟩
  · rw [put_defers'];exact h.defers
  · rw [put_size];exact h.size
  · by_cases hdst:o.dst = some t
    · obtain ⟨p,hp,hn,hc,hd,hv⟩:=h.pend j v hself
      rw [hj] at hp;cases hp
      by_cases hs:t < b.tmps.size
      · rw [hv t hdst hs,hdst,put_get (by rw [h.size];exact hs)]
      · rw [Array.getElem?_eq_none (by rw [put_size,h.size];omega),Array.getElem?_eq_none (by omega)]
    · rw [put_get_ne hdst]
      refine h.same t fun k u p hk hp=>?_
      by_cases hkj:k = j
      · subst hkj;rw [hj] at hp;cases hp;exact hdst
      · refine ht k u p ?_ hp
        rcases List.mem_append.1 hk with hk | hk
        · exact List.mem_append.2 (.inl hk)
        · rcases List.mem_cons.1 hk with hk | hk
          · cases hk;exact absurd rfl hkj
          · exact List.mem_append.2 (.inr hk)
theorem Pend.more {P:Program} {ops:Array Oper} (ok:SureOk ops) {S:World → Prop} {l l':Array Bool} {I:List (Nat × Value)} {a b:Act} (h:Pend P ops S l l' I a b) {i:Nat} {o:Oper} {v:Value} (hi:ops[i]? = some o)
    (hn:¬ On l' i) (hd:∀ e ∈ o.after,Region.binds .any e = true → On l' e.on) (hc:Calm P ops S o v b):Pend P ops S l (l'.setIfInBounds i true) ((i,v) :: I) a (b.put o.dst v):=by
  have hlt:=(Array.getElem?_eq_some_iff.1 hi).1
  have hlt':i < l'.size:=by rw [h.sz'];exact hlt
  have hni:∀ k u,(k,u) ∈ I → k ≠ i:=fun k u hk he=>by subst he;exact hn ((h.on k).2 (.inr ⟨u,hk⟩))
  have keep:∀ {k:Nat} {p:Oper} {u:Value},ops[k]? = some p → (∀ e ∈ p.after,Region.binds .any e = true → On l' e.on) → Calm P ops S p u b → Calm P ops S p u (b.put o.dst v):=fun {k p u} hk hd hc=>by
    refine hc.looks (fun cs b'=>ok.sel k p cs b' hk) fun t ht=>?_
    rw [put_get_ne]
    intro hdst
    obtain ⟨e,he,hb,hon⟩:=ok.look k p i o t hk hi hdst ht
    exact hn (hon ▸ hd e he hb)
  refine ⟨h.sz,by simpa using h.sz',fun k=>?_,?_,fun k u hk=>?_,?_,?_,fun t ht=>?_⟩
  · rw [on_set hlt',h.on]
    constructor
    · rintro ((hk | ⟨u,hu⟩) | rfl)
      · exact .inl hk
      · exact .inr ⟨u,List.mem_cons_of_mem _ hu⟩
      · exact .inr ⟨v,List.mem_cons_self⟩
    · rintro (hk | ⟨u,hu⟩)
      · exact .inl (.inl hk)
      · rcases List.mem_cons.1 hu with hu | hu
        · cases hu;exact .inr rfl
        · exact .inl (.inr ⟨u,hu⟩)
  · rw [List.map_cons,List.nodup_cons]
    refine ⟨fun hm=>?_,h.nd⟩
    obtain ⟨⟨k,u⟩,hk,rfl⟩:=List.mem_map.1 hm
    exact hni k u hk rfl
  · have hon:∀ x,On l' x → On (l'.setIfInBounds i true) x:=fun x hx=>(on_set hlt').2 (.inl hx)
    rcases List.mem_cons.1 hk with hk | hk
    · cases hk
      refine ⟨o,hi,fun hx=>hn ((h.on _).2 (.inl hx)),keep hi hd hc,fun e he hb=>hon _ (hd e he hb),fun d hdst hs=>?_⟩
      rw [put_size] at hs
      rw [hdst,put_get hs]
    · obtain ⟨p,hp,hnl,hcp,hdp,hv⟩:=h.pend k u hk
      refine ⟨p,hp,hnl,keep hp hdp hcp,fun e he hb=>hon _ (hdp e he hb),fun d hdst hs=>?_⟩
      rw [put_size] at hs
      rw [put_get_ne fun he=>hni k u hk (ok.one k p i o d hp hi hdst he)]
      exact hv d hdst hs
  · rw [put_defers'];exact h.defers
  · rw [put_size];exact h.size
  · rw [put_get_ne (ht i v o List.mem_cons_self hi)]
    exact h.same t fun k u p hk hp=>ht k u p (List.mem_cons_of_mem _ hk) hp
theorem Pend.move {P:Program} {ops:Array Oper} (ok:SureOk ops) {S S':World → Prop} {l l':Array Bool} {I:List (Nat × Value)} {a b:Act} (h:Pend P ops S l l' I a b) {j:Nat} {o:Oper} {v:Value} (hj:ops[j]? = some o)
    (hn:¬ On l' j) (hS:∀ (k:Nat) (u:Value) (p:Oper),(k,u) ∈ I → ops[k]? = some p → Calm P ops S p u b → Calm P ops S' p u b):Pend P ops S' (l.setIfInBounds j true) (l'.setIfInBounds j true) I (a.put o.dst v) (b.put o.dst v):=by
  have hlt:=(Array.getElem?_eq_some_iff.1 hj).1
  have hl:j < l.size:=by rw [h.sz];exact hlt
  have hl':j < l'.size:=by rw [h.sz'];exact hlt
  have hni:∀ k u,(k,u) ∈ I → k ≠ j:=fun k u hk he=>by subst he;exact hn ((h.on k).2 (.inr ⟨u,hk⟩))
  refine ⟨by simpa using h.sz,by simpa using h.sz',fun k=>?_,h.nd,fun k u hk=>?_,?_,?_,fun t ht=>?_⟩
  · rw [on_set hl',on_set hl,h.on]
    constructor
    · rintro ((hk | hk) | hk)
      · exact .inl (.inl hk)
      · exact .inr hk
      · exact .inl (.inr hk)
    · rintro ((hk | hk) | hk)
      · exact .inl (.inl hk)
      · exact .inr hk
      · exact .inl (.inr hk)
  · obtain ⟨p,hp,hnl,hcp,hdp,hv⟩:=h.pend k u hk
    refine ⟨p,hp,(fun hon=>?_),?_,(fun e he hb=>(on_set hl').2 (.inl (hdp e he hb))),(fun d hdst hs=>?_)⟩
    · rcases (on_set hl).1 hon with hon | he
      · exact hnl hon
      · exact hni k u hk he
    · refine (hS k u p hk hp hcp).looks (fun cs b'=>ok.sel k p cs b' hp) fun t ht=>?_
      rw [put_get_ne]
      intro hdst
      obtain ⟨e,he,hb,hon⟩:=ok.look k p j o t hp hj hdst ht
      exact hn (hon ▸ hdp e he hb)
    · rw [put_size] at hs
      rw [put_get_ne fun he=>hni k u hk (ok.one k p j o d hp hj hdst he)]
      exact hv d hdst hs
  · rw [put_defers',put_defers'];exact h.defers
  · rw [put_size,put_size];exact h.size
  · by_cases hdst:o.dst = some t
    · by_cases hs:t < b.tmps.size
      · rw [hdst,put_get hs,put_get (by rw [h.size];exact hs)]
      · rw [Array.getElem?_eq_none (by rw [put_size,h.size];omega),Array.getElem?_eq_none (by rw [put_size];omega)]
    · rw [put_get_ne hdst,put_get_ne hdst];exact h.same t ht
theorem Pend.none {P:Program} {ops:Array Oper} {S:World → Prop} {l l':Array Bool} {a b:Act} (h:Pend P ops S l l' [] a b):a = b:=by
  have ht:a.tmps = b.tmps:=Array.ext_getElem? fun t=>h.same t fun k v o hk=>by cases hk
  have hd:=h.defers
  cases a;cases b
  simp only at ht hd
  rw [ht,hd]
def Cl (ops:Array Oper) (l:Array Bool):Prop:=∀ (k:Nat) (o:Oper),ops[k]? = some o → On l k → ∀ e ∈ o.after,Region.binds .any e = true → On l e.on
theorem Cl.run {ops:Array Oper} {l:Array Bool} {j:Nat} {o:Oper} (h:Cl ops l) (hs:l.size = ops.size) (hj:ops[j]? = some o) (hd:∀ e ∈ o.after,Region.binds .any e = true → On l e.on):Cl ops (l.setIfInBounds j true):=by
  have hlt:j < l.size:=by rw [hs];exact (Array.getElem?_eq_some_iff.1 hj).1
  intro k p hk hon e he hb
  refine (on_set hlt).2 (.inl ?_)
  rcases (on_set hlt).1 hon with h1 | rfl
  · exact h k p hk h1 e he hb
  · rw [hj] at hk;cases hk;exact hd e he hb
theorem reach_on {ops:Array Oper} {l:Array Bool} (h:Cl ops l):∀ (n i k:Nat) (o:Oper),ops[i]? = some o → (∀ e ∈ o.after,Region.binds .any e = true → On l e.on) → reachB ops n i k = true → On l k
  | 0,_,_,_,_,_,hr=>by simp [reachB] at hr
  | n + 1,i,k,o,hi,hd,hr=>by
    simp only [reachB,hi] at hr
    obtain ⟨e,he,hb⟩:=Array.any_eq_true'.1 hr
    simp only [Bool.and_eq_true,Bool.or_eq_true,beq_iff_eq] at hb
    have hon:=hd e he hb.1
    rcases hb.2 with h1 | h1
    · exact h1 ▸ hon
    · cases ho:ops[e.on]? with
      | none=>cases n <;> simp [reachB,ho] at h1
      | some p=>exact reach_on h n e.on k p ho (fun e' he' hb'=>h e.on p ho hon e' he' hb') h1
theorem way_sound {P:Program} {ops:Array Oper} {Q:Exit → Act → World → Prop} (ok:SureOk ops) :
    ∀ (m fuel:Nat) (I:List (Nat × Value)) (l l':Array Bool) (a b:Act) (S:World → Prop) (w:World),fuel + I.length = m → Cl ops l → Pend P ops S l l' I a b → Way P ops Q fuel l' b S → Stays S → S w → wpAny P .any ops Q m l a w:=by
  intro m
  induction m with
  | zero =>
    intro fuel I l l' a b S w hm hcl hp hw hst hS
    obtain rfl:I = []:=List.eq_nil_of_length_eq_zero (by omega)
    obtain rfl:fuel = 0:=by omega
    obtain rfl:=hp.none
    refine ⟨?_,hw.2 w hS⟩
    cases hr:Region.ready .any ops l with
    | nil=>rfl
    | cons x xs =>
      have hx:x ∈ Region.ready .any ops l:=by rw [hr];exact List.mem_cons_self
      obtain ⟨o,ho,hn,hd⟩:=(ready_iff hp.sz).1 hx
      have:x ∈ Region.ready .any ops l':=(ready_iff hp.sz').2 ⟨o,ho,(fun h=>by rcases (hp.on x).1 h with h | ⟨v,h⟩;exact hn h;cases h),fun e he hb=>(hp.on _).2 (.inl (hd e he hb))⟩
      rw [hw.1] at this;cases this
  | succ m ihm =>
    intro fuel
    induction fuel with
    | zero =>
      intro I l l' a b S w hm hcl hp hw hst hS
      have hall:=ready_all ok hp.sz' hw.1
      refine ⟨fun hr=>?_,fun j hj=>?_⟩
      · have hall':=ready_all ok hp.sz hr
        cases hI:I with
        | nil=>subst hI;rw [hp.none];exact hw.2 w hS
        | cons x xs =>
          obtain ⟨k,v⟩:=x
          obtain ⟨o,ho,hn,_⟩:=hp.pend k v (by rw [hI];exact List.mem_cons_self)
          exact absurd (hall' (k + 1) k (by omega) (Array.getElem?_eq_some_iff.1 ho).1) hn
      · obtain ⟨o,ho,hn,hd⟩:=(ready_iff hp.sz).1 hj
        rcases (hp.on j).1 (hall (j + 1) j (by omega) (Array.getElem?_eq_some_iff.1 ho).1) with h | ⟨v,hv⟩
        · exact absurd h hn
        · obtain ⟨I1,I2,rfl⟩:=List.append_of_mem hv
          obtain ⟨o',ho',_,hc,_⟩:=hp.pend j v hv
          rw [ho] at ho';cases ho'
          have hc':Calm P ops S o v a:=hc.looks (fun cs b'=>ok.sel j o cs b' ho) fun t ht=>(hp.looks ok ho hd t ht).symm
          exact hc'.wpOp ho hS hst fun w' hS'=>ihm 0 (I1 ++ I2) _ l' _ b S w' (by simp at hm ⊢;omega) (hcl.run hp.sz ho hd) (hp.run ok ho) hw hst hS'
    | succ fuel ihf =>
      intro I l l' a b S w hm hcl hp hw hst hS
      have run:∀ (hw:Way P ops Q (fuel + 1) l' b S) j,j ∈ Region.ready .any ops l → On l' j → wpOp P ops Q j (wpAny P .any ops Q m (l.setIfInBounds j true)) a w:=fun hw j hj hon=>by
        obtain ⟨o,ho,hn,hd⟩:=(ready_iff hp.sz).1 hj
        rcases (hp.on j).1 hon with h | ⟨v,hv⟩
        · exact absurd h hn
        · obtain ⟨I1,I2,rfl⟩:=List.append_of_mem hv
          obtain ⟨o',ho',_,hc,_⟩:=hp.pend j v hv
          rw [ho] at ho';cases ho'
          have hc':Calm P ops S o v a:=hc.looks (fun cs b'=>ok.sel j o cs b' ho) fun t ht=>(hp.looks ok ho hd t ht).symm
          exact hc'.wpOp ho hS hst fun w' hS'=>ihm (fuel + 1) (I1 ++ I2) _ l' _ b S w' (by simp at hm ⊢;omega) (hcl.run hp.sz ho hd) (hp.run ok ho) hw hst hS'
      rcases id hw with ⟨hr',hQ⟩ | ⟨i,o,v,hi,ho,hc,hrest⟩ | ⟨hne,hmv⟩
      · have hall:=ready_all ok hp.sz' hr'
        refine ⟨fun hr=>?_,fun j hj=>?_⟩
        · have hall':=ready_all ok hp.sz hr
          cases hI:I with
          | nil=>subst hI;rw [hp.none];exact hQ w hS
          | cons x xs =>
            obtain ⟨k,v⟩:=x
            obtain ⟨o,ho,hn,_⟩:=hp.pend k v (by rw [hI];exact List.mem_cons_self)
            exact absurd (hall' (k + 1) k (by omega) (Array.getElem?_eq_some_iff.1 ho).1) hn
        · obtain ⟨o,ho,hn,hd⟩:=(ready_iff hp.sz).1 hj
          exact run hw j hj (hall (j + 1) j (by omega) (Array.getElem?_eq_some_iff.1 ho).1)
      · obtain ⟨o',ho',hn,hd⟩:=(ready_iff hp.sz').1 hi
        rw [ho] at ho';cases ho'
        exact ihf ((i,v) :: I) l _ a _ S w (by simp;omega) hcl (hp.more ok ho hn hd hc) hrest hst hS
      · refine ⟨fun hr=>?_,fun j hj=>?_⟩
        · have hall':=ready_all ok hp.sz hr
          exfalso
          apply hne
          cases hr':Region.ready .any ops l' with
          | nil=>rfl
          | cons x xs =>
            have hx:x ∈ Region.ready .any ops l':=by rw [hr'];exact List.mem_cons_self
            obtain ⟨o,ho,hn,_⟩:=(ready_iff hp.sz').1 hx
            exact absurd ((hp.on x).2 (.inl (hall' (x + 1) x (by omega) (Array.getElem?_eq_some_iff.1 ho).1))) hn
        · by_cases hon:On l' j
          · exact run hw j hj hon
          · obtain ⟨o,ho,hn,hd⟩:=(ready_iff hp.sz).1 hj
            have hj':j ∈ Region.ready .any ops l':=(ready_iff hp.sz').2 ⟨o,ho,hon,fun e he hb=>(hp.on _).2 (.inl (hd e he hb))⟩
            obtain ⟨o',ho',hwant,hg⟩:=hmv j hj'
            rw [ho] at ho';cases ho'
            have hl:=hp.looks ok ho hd
            have hg':=hg w hS
            rw [← eval_looks (fun cs b'=>ok.sel j o cs b' ho) hl] at hg'
            rw [← wanted_looks hl] at hwant
            refine moves_wpOp ho hwant (hg'.mono fun v w'=>?_)
            rintro ⟨S',hst',hle,hS',hrest⟩
            refine ihm fuel I _ _ _ _ S' w' (by omega) (hcl.run hp.sz ho hd) (hp.move ok ho hon ?_) hrest hst' hS'
            intro k u p hk hkp hcp
            rcases hle with hle | hw'
            · exact hcp.mono hle
            · obtain ⟨p',hkp',hnk,_⟩:=hp.pend k u hk
              rw [hkp] at hkp';cases hkp'
              have hlk:On l' k:=(hp.on k).2 (.inr ⟨u,hk⟩)
              unfold waitsB at hw'
              rw [ho] at hw'
              have h1:=List.all_eq_true.1 hw' k (List.mem_range.2 (Array.getElem?_eq_some_iff.1 hkp).1)
              unfold On at hlk
              rw [hlk,hkp] at h1
              simp only [Bool.not_true,Bool.false_or,Bool.or_eq_true] at h1
              rcases h1 with (h1 | h1) | h1
              · obtain ⟨e,he,hb⟩:=Array.any_eq_true'.1 h1
                simp only [Bool.and_eq_true,beq_iff_eq] at hb
                exact absurd (hb.2 ▸ hd e he hb.1) hnk
              rotate_left
              · exact absurd (reach_on hcl _ _ _ _ ho hd h1) hnk
              · refine hcp.imp (fun ⟨hw0,hv⟩=>⟨hw0,fun w1 _=>pure_calm h1 (hv w hS) w1⟩) id
theorem wp_region_way {P:Program} {id:Nat} {ops:Array Oper} {S:World → Prop} {Q:Exit → Act → World → Prop} {a:Act} {w:World} (hm:P.follows .mixedOrders = true) (hok:sureB ops = true) (hst:Stays S) (hS:S w.drew)
    (h:Way P ops Q ops.size (Array.replicate ops.size false) a S):(Code.region id ops true).wp P Q a w :=
  wp_region_any hm (way_sound (sureB_spec hok) ops.size ops.size [] _ _ a a S _ (by simp) (fun k o _ hon=>by simp [On,Array.getD_eq_getD_getElem?,Array.getElem?_replicate] at hon;split at hon <;> simp at hon) ⟨by simp,by simp,(fun k=>by simp),by simp,(fun k v hk=>by cases hk),rfl,rfl,fun t _=>rfl⟩ h hst hS)
def opAt:List Oper → Nat → Option Oper
  | [],_=>none
  | o :: _,0=>some o
  | _ :: l,n + 1=>opAt l n
theorem opAt_eq:∀ (l:List Oper) (i:Nat),opAt l i = l[i]?
  | [],_=>rfl
  | _ :: _,0=>rfl
  | _ :: l,n + 1=>by rw [opAt,opAt_eq l n,List.getElem?_cons_succ]
theorem opAt_arr {ops:Array Oper} {i:Nat} {o:Oper} (h:opAt ops.toList i = some o):ops[i]? = some o:=by
  rw [opAt_eq] at h;simpa using h
section
variable {P:Program} {ops:Array Oper} {Q:Exit → Act → World → Prop} {fuel:Nat} {l:Array Bool} {b:Act} {S:World → Prop}
theorem Way.done (hr:Region.ready .any ops l = []) (h:∀ w,S w → Q .normal b w):Way P ops Q fuel l b S:=by
  cases fuel with
  | zero=>exact ⟨hr,h⟩
  | succ n=>exact .inl ⟨hr,h⟩
theorem Way.yes (i:Nat) {o:Oper} {v:Value} (ho:opAt ops.toList i = some o) (hr:(Region.ready .any ops l).contains i = true) (hw:Region.wanted o (yielded ops b.tmps) = true) (hg:∀ w,S w → CGives P v w ((execOp b.eval o).run P w))
    (h:Way P ops Q fuel (l.setIfInBounds i true) (b.put o.dst v) S):Way P ops Q (fuel + 1) l b S:=.inr (.inl ⟨i,o,v,by simpa using hr,opAt_arr ho,.inl ⟨hw,hg⟩,h⟩)
theorem Way.no (i:Nat) {o:Oper} (ho:opAt ops.toList i = some o) (hr:(Region.ready .any ops l).contains i = true) (hw:Region.wanted o (yielded ops b.tmps) = false)
    (h:Way P ops Q fuel (l.setIfInBounds i true) (b.put o.dst undef) S):Way P ops Q (fuel + 1) l b S:=.inr (.inl ⟨i,o,undef,by simpa using hr,opAt_arr ho,.inr ⟨hw,rfl⟩,h⟩)
def Moved (P:Program) (ops:Array Oper) (Q:Exit → Act → World → Prop) (fuel:Nat) (l:Array Bool) (b:Act) (S:World → Prop) (i:Nat) (d:Option Tmp) (v:Value) (w':World):Prop :=
  ∃ S',Stays S' ∧ ((∀ x,S' x → S x) ∨ waitsB ops l i = true) ∧ S' w' ∧ Way P ops Q fuel (l.setIfInBounds i true) (b.put d v) S'
theorem Moved.keep {P:Program} {ops:Array Oper} {Q:Exit → Act → World → Prop} {fuel:Nat} {l:Array Bool} {b:Act} {S:World → Prop} {i:Nat} {d:Option Tmp} {v:Value} {w':World} (S':World → Prop) (hst:Stays S') (hle:∀ x,S' x → S x) (h:S' w') (hw:Way P ops Q fuel (l.setIfInBounds i true) (b.put d v) S'):Moved P ops Q fuel l b S i d v w':=⟨S',hst,.inl hle,h,hw⟩
theorem Moved.turn {P:Program} {ops:Array Oper} {Q:Exit → Act → World → Prop} {fuel:Nat} {l:Array Bool} {b:Act} {S:World → Prop} {i:Nat} {d:Option Tmp} {v:Value} {w':World} (S':World → Prop) (hst:Stays S') (hle:waitsB ops l i = true) (h:S' w') (hw:Way P ops Q fuel (l.setIfInBounds i true) (b.put d v) S'):Moved P ops Q fuel l b S i d v w':=⟨S',hst,.inr hle,h,hw⟩
theorem Way.move (i:Nat) {o:Oper} (ho:opAt ops.toList i = some o) (hr:Region.ready .any ops l = [i]) (hw:Region.wanted o (yielded ops b.tmps) = true)
    (hg:∀ w,S w → MGives P (Moved P ops Q fuel l b S i o.dst) ((execOp b.eval o).run P w)):Way P ops Q (fuel + 1) l b S :=
  .inr (.inr ⟨(by rw [hr];simp),fun j hj=>by
    rw [hr] at hj
    have hji:j = i:=by simpa using hj
    subst hji
    exact ⟨o,opAt_arr ho,hw,hg⟩⟩)
end
theorem Stays.below {B:Nat} {w0:World} (hB:B ≤ w0.heap.size):Stays fun w=>w0.heap.size ≤ w.heap.size ∧ Below B w0 w:=fun w w' h hb=>⟨Nat.le_trans h.1 hb.size,h.2.trans (hb.mono (Nat.le_trans hB h.1))⟩
end Go.Proofs.YtgmholdkdppbmaaGreatDoor

namespace Go.Proofs.YtgmholdkdppbmaaGreatDoor
def jumps (c:Code) (J:Nat → Act → World → Prop) (M:Nat → Nat) (B:Nat) (Q:Exit → Act → World → Prop):Exit → Act → World → Prop
  | .goto l,a,w=>(∃ rest,findLabel c l = some rest) ∧ J l a w ∧ M l < B
  | e,a,w=>Q e a w
section
variable {c:Code} {J:Nat → Act → World → Prop} {M:Nat → Nat} {B:Nat} {Q:Exit → Act → World → Prop} {a:Act} {w:World}
theorem jumps_normal:jumps c J M B Q .normal a w = Q .normal a w:=rfl
theorem jumps_exit (id:Nat):jumps c J M B Q (.exit id) a w = Q (.exit id) a w:=rfl
theorem jumps_ret:jumps c J M B Q .ret a w = Q .ret a w:=rfl
theorem jumps_panic (ch:List PanicEntry):jumps c J M B Q (.panic ch) a w = Q (.panic ch) a w:=rfl
theorem wp_scope_labels {P:Program} (J:Nat → Act → World → Prop) (M:Nat → Nat) (B:Nat)
    (first:c.wp P (jumps c J M B Q) a w)
    (pass:∀ l rest a w,findLabel c l = some rest → J l a w → rest.wp P (jumps c J M (M l) Q) a w):(Code.scope c).wp P Q a w:=by
  intro b k cs
  have hg:∀ l rest,findLabel c l = some rest → gotoIn l (.inScope c :: k) = some (.code rest :: .inScope c :: k):=fun l rest hf=>by simp [gotoIn,hf]
  have key:∀ n l rest a w,M l = n → findLabel c l = some rest → J l a w → ∃ e a' w',Q e a' w' ∧ Arrives P (lone (b.at a (.code rest :: .inScope c :: k)) cs w) b k cs e a' w':=by
    intro n
    induction n using Nat.strongRecOn with
    | _ n ih =>
      intro l rest a w hn hf hJ
      obtain ⟨e,a₁,w₁,hq,harr⟩:=pass l rest a w hf hJ b (.inScope c :: k) cs
      cases e with
      | normal=>exact ⟨.normal,a₁,w₁,hq,Steps.trans harr (.one step_inScope)⟩
      | exit id=>exact ⟨.exit id,a₁,w₁,hq,fun k' hk=>harr k' (by simp [exitTo,hk])⟩
      | goto l' =>
        obtain ⟨⟨rest',hf'⟩,hJ',hlt⟩:=hq
        obtain ⟨e₂,a₂,w₂,hq₂,harr₂⟩:=ih (M l') (by omega) l' rest' a₁ w₁ rfl hf' hJ'
        exact ⟨e₂,a₂,w₂,hq₂,.of_steps (harr _ (hg l' rest' hf')) harr₂⟩
      | ret=>exact ⟨_,a₁,w₁,hq,harr⟩
      | panic ch=>exact ⟨_,a₁,w₁,hq,harr⟩
      | outgrown=>exact ⟨_,a₁,w₁,hq,harr⟩
  obtain ⟨e,a₁,w₁,hq,harr⟩:=first b (.inScope c :: k) cs
  cases e with
  | normal=>exact ⟨.normal,a₁,w₁,hq,.head step_scope (Steps.trans harr (.one step_inScope))⟩
  | exit id=>exact ⟨.exit id,a₁,w₁,hq,fun k' hk=>.head step_scope (harr k' (by simp [exitTo,hk]))⟩
  | goto l =>
    obtain ⟨⟨rest,hf⟩,hJ',hlt⟩:=hq
    obtain ⟨e₂,a₂,w₂,hq₂,harr₂⟩:=key (M l) l rest a₁ w₁ rfl hf hJ'
    exact ⟨e₂,a₂,w₂,hq₂,.of_steps (.head step_scope (harr _ (hg l rest hf))) harr₂⟩
  | ret=>exact ⟨_,a₁,w₁,hq,.of_steps (.one step_scope) harr⟩
  | panic ch=>exact ⟨_,a₁,w₁,hq,.of_steps (.one step_scope) harr⟩
  | outgrown=>exact ⟨_,a₁,w₁,hq,.of_steps (.one step_scope) harr⟩
theorem wp_mono_Q {P:Program} {Q Q':Exit → Act → World → Prop} (h:∀ e a w,Q e a w → Q' e a w) {d:Code} (hd:d.wp P Q a w):d.wp P Q' a w:=fun b k cs =>
  let ⟨e,a',w',q,r⟩:=hd b k cs;⟨e,a',w',h _ _ _ q,r⟩
theorem jumps_mono {B':Nat} (hB:B ≤ B') (e:Exit) (a:Act) (w:World) (h:jumps c J M B Q e a w):jumps c J M B' Q e a w:=by
  cases e <;> first | exact h | (obtain ⟨h1,h2,h3⟩:=h;exact ⟨h1,h2,Nat.lt_of_lt_of_le h3 hB⟩)
theorem wp_back {P:Program} {K:Act → World → Prop} {d:Code} {Q':Exit → Act → World → Prop} (h:∀ a w,Code.wp P d Q' a w → K a w) (g:Code.wp P d Q' a w):K a w:=h _ _ g
theorem wp_scope_down {P:Program} (J:Nat → Act → World → Prop) (M:Nat → Nat) (B:Nat)
    (form:∀ l rest a w,findLabel c l = some rest → J l a w → ∃ d,rest = Code.seq .skip d)
    (first:(∀ l d a w,M l < B → findLabel c l = some (Code.seq .skip d) → J l a w → d.wp P (jumps c J M B Q) a w) → c.wp P (jumps c J M B Q) a w)
    (pass:∀ l d a w,findLabel c l = some (Code.seq .skip d) → J l a w → (∀ l' d' a' w',M l' < M l → findLabel c l' = some (Code.seq .skip d') → J l' a' w' → d'.wp P (jumps c J M (M l) Q) a' w') → d.wp P (jumps c J M (M l) Q) a w):(Code.scope c).wp P Q a w:=by
  have all:∀ n l d a w,M l = n → findLabel c l = some (Code.seq .skip d) → J l a w → d.wp P (jumps c J M (M l) Q) a w:=by
    intro n
    induction n using Nat.strongRecOn with
    | _ n ih =>
      intro l d a w hn hf hJ
      exact pass l d a w hf hJ fun l' d' a' w' hlt hf' hJ'=>wp_mono_Q (jumps_mono (Nat.le_of_lt hlt)) (ih (M l') (by omega) l' d' a' w' rfl hf' hJ')
  refine wp_scope_labels J M B (first fun l d a w hlt hf hJ=>wp_mono_Q (jumps_mono (Nat.le_of_lt hlt)) (all _ l d a w rfl hf hJ)) fun l rest a w hf hJ=>?_
  obtain ⟨d,rfl⟩:=form l rest a w hf hJ
  exact wp_seq (wp_skip (all _ l d a w rfl hf hJ))
end
end Go.Proofs.YtgmholdkdppbmaaGreatDoor

namespace Go.Proofs.YtgmholdkdppbmaaGreatDoor
open Go.RowKit
attribute [local go_sem] jumps_normal jumps_exit jumps_ret jumps_panic
theorem digit_any (c:UInt8) (w:World):Calls Tryz.prog 109 #[.int .u8 (c.toNat:Int)] w fun e w'=>e = .returned (.bool (isD c)) ∧ w = w':=by
  by_cases h1:48 ≤ c.toNat
  · by_cases h2:c.toNat ≤ 57
    · have h:isD c = true:=by unfold isD;simp;omega
      rw [h]
      have t1:decide ((48:Int) ≤ c.toNat) = true:=by simp;omega
      have t2:decide ((c.toNat:Int) ≤ 57) = true:=by simp;omega
      clear h1 h2 h
      go_enter Tryz.func109,Tryz.ntmps109
      go_wp2
      go_ret
      exact ⟨rfl,rfl⟩
    · have h:isD c = false:=by unfold isD;simp;omega
      rw [h]
      have t1:decide ((48:Int) ≤ c.toNat) = true:=by simp;omega
      have t2:decide ((c.toNat:Int) ≤ 57) = false:=by simp;omega
      clear h1 h2 h
      go_enter Tryz.func109,Tryz.ntmps109
      go_wp2
      go_ret
      exact ⟨rfl,rfl⟩
  · have h:isD c = false:=by unfold isD;simp;omega
    rw [h]
    have t1:decide ((48:Int) ≤ c.toNat) = false:=by simp;omega
    clear h1 h
    go_enter Tryz.func109,Tryz.ntmps109
    go_wp2
    go_ret
    exact ⟨rfl,rfl⟩
theorem bt_eq {s:List UInt8} {i:Nat} (h:i < s.length) (c:UInt8):bt s i = c.toNat ↔ s[i]? = some c:=by
  rw [List.getElem?_eq_getElem h]
  unfold bt
  rw [List.getD_eq_getElem?_getD,List.getElem?_eq_getElem h]
  simp only [Option.getD_some,Option.some.injEq]
  exact ⟨fun h=>UInt8.toNat_inj.1 h,fun h=>by rw [h]⟩
theorem bt_is {s:List UInt8} {i:Nat} (h:i < s.length) (c:UInt8):(((bt s i:Nat):Int) == ((c.toNat:Nat):Int)) = (s[i]? == some c):=by
  rw [Bool.eq_iff_iff,beq_iff_eq,beq_iff_eq,← bt_eq h c]
  omega
theorem digit_at (s:List UInt8) (i:Nat) (h:i < s.length) (w:World):Calls Tryz.prog 109 #[.int .u8 ((bt s i:Nat):Int)] w fun e w'=>e = .returned (.bool (dAt s i)) ∧ w = w':=by
  have h1:=digit_any s[i] w
  rw [dAt_get h,show bt s i = s[i].toNat by rw [← bget s i h];rfl]
  exact h1
abbrev sv (l:List UInt8):Value:=.string ⟨l.toArray⟩
theorem ext_cut (s:List UInt8) (i k:Nat):(⟨s.toArray⟩:ByteArray).extract i k = ⟨(cutL s i k).toArray⟩:=by
  apply ByteArray.ext
  rw [ByteArray.data_extract]
  unfold cutL
  simp
theorem arr_range (t:Array Value) (n:Nat) (h:t.size = n):t = ((List.range n).map fun i=>t.getD i undef).toArray:=by
  apply Array.ext
  · simp [h]
  · intro i h1 h2
    simp [h1]
set_option maxRecDepth 100000 in
theorem frm158 (t:Array Value) (h:t.size = 158) {v0 v2 v3 v4 v5 v6:Value} (e0:t.getD 0 undef = v0) (e2:t.getD 2 undef = v2) (e3:t.getD 3 undef = v3) (e4:t.getD 4 undef = v4) (e5:t.getD 5 undef = v5) (e6:t.getD 6 undef = v6):∃ U:Nat → Value,t = List.toArray (v0 :: U 1 :: v2 :: v3 :: v4 :: v5 :: v6 :: U 7 :: U 8 :: U 9 :: U 10 :: U 11 :: U 12 :: U 13 :: U 14 :: U 15 :: U 16 :: U 17 :: U 18 :: U 19 :: U 20 :: U 21 :: U 22 :: U 23 :: U 24 :: U 25 :: U 26 :: U 27 :: U 28 :: U 29 :: U 30 :: U 31 :: U 32 :: U 33 :: U 34 :: U 35 :: U 36 :: U 37 :: U 38 :: U 39 :: U 40 :: U 41 :: U 42 :: U 43 :: U 44 :: U 45 :: U 46 :: U 47 :: U 48 :: U 49 :: U 50 :: U 51 :: U 52 :: U 53 :: U 54 :: U 55 :: U 56 :: U 57 :: U 58 :: U 59 :: U 60 :: U 61 :: U 62 :: U 63 :: U 64 :: U 65 :: U 66 :: U 67 :: U 68 :: U 69 :: U 70 :: U 71 :: U 72 :: U 73 :: U 74 :: U 75 :: U 76 :: U 77 :: U 78 :: U 79 :: U 80 :: U 81 :: U 82 :: U 83 :: U 84 :: U 85 :: U 86 :: U 87 :: U 88 :: U 89 :: U 90 :: U 91 :: U 92 :: U 93 :: U 94 :: U 95 :: U 96 :: U 97 :: U 98 :: U 99 :: U 100 :: U 101 :: U 102 :: U 103 :: U 104 :: U 105 :: U 106 :: U 107 :: U 108 :: U 109 :: U 110 :: U 111 :: U 112 :: U 113 :: U 114 :: U 115 :: U 116 :: U 117 :: U 118 :: U 119 :: U 120 :: U 121 :: U 122 :: U 123 :: U 124 :: U 125 :: U 126 :: U 127 :: U 128 :: U 129 :: U 130 :: U 131 :: U 132 :: U 133 :: U 134 :: U 135 :: U 136 :: U 137 :: U 138 :: U 139 :: U 140 :: U 141 :: U 142 :: U 143 :: U 144 :: U 145 :: U 146 :: U 147 :: U 148 :: U 149 :: U 150 :: U 151 :: U 152 :: U 153 :: U 154 :: U 155 :: U 156 :: U 157 :: []):=by
  refine ⟨fun i=>t.getD i undef,?_⟩
  rw [← e0,← e2,← e3,← e4,← e5,← e6]
  exact arr_range t 158 h
def RD (w:World) (B:Nat) (c0:Bool) (c1 c2:List UInt8) (c3:Bool) (c4:List UInt8) (W:World):Prop :=
  Blk W B 189 #[.bool false,.string ⟨#[]⟩,.string ⟨#[]⟩,.bool false,.string ⟨#[]⟩] ∧ Blk W (B + 1) 189 #[.bool c0,sv c1,sv c2,.bool c3,sv c4] ∧ Below w.heap.size w W
theorem RD.keep {w W W':World} {B:Nat} {c0 c3:Bool} {c1 c2 c4:List UInt8} (h:RD w B c0 c1 c2 c3 c4 W) (hb:Below W.heap.size W W'):RD w B c0 c1 c2 c3 c4 W' :=
  ⟨h.1.below hb h.1.lt,h.2.1.below hb h.2.1.lt,keepb h.2.2 hb⟩
def RF (s:List UInt8) (w:World) (i:Nat) (a:Act):Prop :=
  a.defers = [] ∧ a.tmps.size = 158 ∧ a.tmps.getD 0 undef = sv s ∧ a.tmps.getD 2 undef = .pointer (some ⟨w.heap.size,0,none⟩) ∧ a.tmps.getD 3 undef = .int .i64 0 ∧ a.tmps.getD 4 undef = .pointer (some ⟨w.heap.size + 1,0,none⟩) ∧ a.tmps.getD 5 undef = .int .i64 (i:Int)
def RJ (s:List UInt8) (w:World) (l:Nat) (a:Act) (W:World):Prop :=
  (l = 0 ∧ ∃ (q:Nat) (c0:Bool) (c1 c2:List UInt8) (c3:Bool) (c4:List UInt8),wrongP s = some q ∧ RF s w q a ∧ RD w w.heap.size c0 c1 c2 c3 c4 W) ∨
  (l = 1 ∧ dAt s (p0 s) = true ∧ RF s w (p1 s) a ∧ a.tmps.getD 6 undef = .int .i64 ((p0 s:Nat):Int) ∧ RD w w.heap.size (negP s) [] [] false [] W) ∨
  (l = 2 ∧ dAt s (p0 s) = true ∧ (pt s = true → dAt s (p1 s + 1) = true) ∧ RF s w (p2 s) a ∧ RD w w.heap.size (negP s) (wholeP s) (behindP s) false [] W)
def RM (l:Nat):Nat:=if l = 0 then 1 else if l = 1 then 3 else 2
def litV (s:List UInt8):Value:=match wrongP s with
  | some q=>.tuple #[.agg #[.bool false,.string ⟨#[]⟩,.string ⟨#[]⟩,.bool false,.string ⟨#[]⟩],.int .i64 (q:Nat)]
  | none=>.tuple #[.agg #[.bool (negP s),sv (wholeP s),sv (behindP s),.bool (underP s),sv (expP s)],.int .i64 (-1)]
theorem RJ.wrong {s:List UInt8} {w:World} {q:Nat} {c0:Bool} {c1 c2:List UInt8} {c3:Bool} {c4:List UInt8} {a:Act} {W:World} (hq:wrongP s = some q) (hF:RF s w q a) (hd:RD w w.heap.size c0 c1 c2 c3 c4 W):RJ s w 0 a W:=.inl ⟨rfl,q,c0,c1,c2,c3,c4,hq,hF,hd⟩
theorem RJ.point {s:List UInt8} {w:World} {a:Act} {W:World} (h0:dAt s (p0 s) = true) (hF:RF s w (p1 s) a) (h6:a.tmps.getD 6 undef = .int .i64 ((p0 s:Nat):Int)) (hd:RD w w.heap.size (negP s) [] [] false [] W):RJ s w 1 a W:=.inr (.inl ⟨rfl,h0,hF,h6,hd⟩)
theorem RJ.ten {s:List UInt8} {w:World} {a:Act} {W:World} (h0:dAt s (p0 s) = true) (h1:pt s = true → dAt s (p1 s + 1) = true) (hF:RF s w (p2 s) a) (hd:RD w w.heap.size (negP s) (wholeP s) (behindP s) false [] W):RJ s w 2 a W:=.inr (.inr ⟨rfl,h0,h1,hF,hd⟩)
theorem RF.mk {s:List UInt8} {w:World} {i:Nat} {a:Act} (h1:a.defers = []) (h2:a.tmps.size = 158) (h3:a.tmps.getD 0 undef = sv s) (h4:a.tmps.getD 2 undef = .pointer (some ⟨w.heap.size,0,none⟩)) (h5:a.tmps.getD 3 undef = .int .i64 0)
    (h6:a.tmps.getD 4 undef = .pointer (some ⟨w.heap.size + 1,0,none⟩)) (h7:a.tmps.getD 5 undef = .int .i64 (i:Int)):RF s w i a:=⟨h1,h2,h3,h4,h5,h6,h7⟩
theorem RF.open {s:List UInt8} {w:World} {i:Nat} {a:Act} (h:RF s w i a) {v:Value} (h6:a.tmps.getD 6 undef = v):∃ U:Nat → Value,a = { tmps:=List.toArray (sv s :: U 1 :: (.pointer (some ⟨w.heap.size,0,none⟩):Value) :: (.int .i64 0:Value) :: (.pointer (some ⟨w.heap.size + 1,0,none⟩):Value) :: (.int .i64 (i:Int):Value) :: v :: U 7 :: U 8 :: U 9 :: U 10 :: U 11 :: U 12 :: U 13 :: U 14 :: U 15 :: U 16 :: U 17 :: U 18 :: U 19 :: U 20 :: U 21 :: U 22 :: U 23 :: U 24 :: U 25 :: U 26 :: U 27 :: U 28 :: U 29 :: U 30 :: U 31 :: U 32 :: U 33 :: U 34 :: U 35 :: U 36 :: U 37 :: U 38 :: U 39 :: U 40 :: U 41 :: U 42 :: U 43 :: U 44 :: U 45 :: U 46 :: U 47 :: U 48 :: U 49 :: U 50 :: U 51 :: U 52 :: U 53 :: U 54 :: U 55 :: U 56 :: U 57 :: U 58 :: U 59 :: U 60 :: U 61 :: U 62 :: U 63 :: U 64 :: U 65 :: U 66 :: U 67 :: U 68 :: U 69 :: U 70 :: U 71 :: U 72 :: U 73 :: U 74 :: U 75 :: U 76 :: U 77 :: U 78 :: U 79 :: U 80 :: U 81 :: U 82 :: U 83 :: U 84 :: U 85 :: U 86 :: U 87 :: U 88 :: U 89 :: U 90 :: U 91 :: U 92 :: U 93 :: U 94 :: U 95 :: U 96 :: U 97 :: U 98 :: U 99 :: U 100 :: U 101 :: U 102 :: U 103 :: U 104 :: U 105 :: U 106 :: U 107 :: U 108 :: U 109 :: U 110 :: U 111 :: U 112 :: U 113 :: U 114 :: U 115 :: U 116 :: U 117 :: U 118 :: U 119 :: U 120 :: U 121 :: U 122 :: U 123 :: U 124 :: U 125 :: U 126 :: U 127 :: U 128 :: U 129 :: U 130 :: U 131 :: U 132 :: U 133 :: U 134 :: U 135 :: U 136 :: U 137 :: U 138 :: U 139 :: U 140 :: U 141 :: U 142 :: U 143 :: U 144 :: U 145 :: U 146 :: U 147 :: U 148 :: U 149 :: U 150 :: U 151 :: U 152 :: U 153 :: U 154 :: U 155 :: U 156 :: U 157 :: []),defers:=[] }:=by
  obtain ⟨hd,hs,h0,h2,h3,h4,h5⟩:=h
  obtain ⟨U,hU⟩:=frm158 a.tmps hs h0 h2 h3 h4 h5 h6
  refine ⟨U,?_⟩
  obtain ⟨t,d⟩:=a
  simp only at hd hU
  rw [hd,hU]
set_option maxRecDepth 100000 in
set_option maxHeartbeats 1000000 in
theorem read_any (s:List UInt8) (w:World) (hs:s.length ≤ 140737488353000) :
    Calls Tryz.prog 96 #[.string ⟨s.toArray⟩] w fun e w'=>e = .returned (litV s) ∧ Below w.heap.size w w':=by
  go_enter Tryz.func96,Tryz.ntmps96
  go_wp2_with fail
  refine wp_scope_down (RJ s w) RM 100 (fun l rest a W hf hJ=>?_) (fun H=>?_) ?_
  · rcases hJ with ⟨rfl,hJ⟩ | ⟨rfl,hJ⟩ | ⟨rfl,hJ⟩ <;> exact ⟨_,(Option.some.inj hf).symm⟩
  · have HH:=Lib.hid H
    clear H
    have hlen:((s.length:Nat):Int) ≤ 140737488353000:=by omega
    have HP0L:=Lib.hid (p0_le (s:=s))
    have hneg:(0 < s.length ∧ (((bt s 0:Nat):Int) == 45) = true ∧ negP s = true ∧ p0 s = 1) ∨ (((s.length = 0) ∨ (0 < s.length ∧ (((bt s 0:Nat):Int) == 45) = false)) ∧ negP s = false ∧ p0 s = 0):=by
      unfold negP p0
      rcases Nat.eq_zero_or_pos s.length with h | h
      · right
        rw [List.getElem?_eq_none (by omega)]
        exact ⟨.inl h,rfl,rfl⟩
      · have k1:(((bt s 0:Nat):Int) == 45) = (s[0]? == some 45):=bt_is h 45
        cases hh:s[0]? == some 45 with
        | true=>left;rw [k1,hh];exact ⟨h,rfl,rfl,by rw [if_pos (by simpa using hh)]⟩
        | false=>right;rw [k1,hh];exact ⟨.inr ⟨h,rfl⟩,rfl,by rw [if_neg (by simpa using hh)]⟩
    have hB0:=((Below.refl _ w).alloc (Nat.le_refl _) (.cells #[.bool false,.string ⟨#[]⟩,.string ⟨#[]⟩,.bool false,.string ⟨#[]⟩] 189)).alloc (by simp) (.cells #[.bool false,.string ⟨#[]⟩,.string ⟨#[]⟩,.bool false,.string ⟨#[]⟩] 189)
    have hB1:=((Below.refl _ w).alloc (Nat.le_refl _) (.cells #[.bool false,.string ⟨#[]⟩,.string ⟨#[]⟩,.bool false,.string ⟨#[]⟩] 189)).alloc (by simp) (.cells #[.bool true,.string ⟨#[]⟩,.string ⟨#[]⟩,.bool false,.string ⟨#[]⟩] 189)
    have HR0:=Lib.hid (show RD w w.heap.size false [] [] false [] _ from ⟨(Blk.new w 189 #[.bool false,.string ⟨#[]⟩,.string ⟨#[]⟩,.bool false,.string ⟨#[]⟩]).alloc _,(by have:=Blk.new (w.alloc (.cells #[.bool false,.string ⟨#[]⟩,.string ⟨#[]⟩,.bool false,.string ⟨#[]⟩] 189)) 189 (#[.bool false,.string ⟨#[]⟩,.string ⟨#[]⟩,.bool false,.string ⟨#[]⟩]);rwa [World.size_alloc] at this),hB0⟩)
    have HR1:=Lib.hid (show RD w w.heap.size true [] [] false [] _ from ⟨(Blk.new w 189 #[.bool false,.string ⟨#[]⟩,.string ⟨#[]⟩,.bool false,.string ⟨#[]⟩]).alloc _,(by have:=Blk.new (w.alloc (.cells #[.bool false,.string ⟨#[]⟩,.string ⟨#[]⟩,.bool false,.string ⟨#[]⟩] 189)) 189 (#[.bool true,.string ⟨#[]⟩,.string ⟨#[]⟩,.bool false,.string ⟨#[]⟩]);rwa [World.size_alloc] at this),hB1⟩)
    clear hB0 hB1
    rcases hneg with ⟨hl,k1,hn,hp⟩ | ⟨hor,hn,hp⟩
    · have hb:=bget s 0 hl
      have hI:(0:Int) < ((s.length:Nat):Int):=by omega
      have u1:decide (0 < s.length) = true:=by simpa using hl
      have HN:=Lib.hid hn
      have HP:=Lib.hid hp
      clear hn hp
      have hsl:((s.length:Nat):Int) ≤ 140737488353000:=hlen
      cases hd0:dAt s 1 with
      | false =>
        have HW:Go.RowKit.Hid (wrongP s = some 1):=Lib.hid (by unfold wrongP;rw [HP.out,if_pos hd0])
        rcases Nat.lt_or_ge 1 s.length with hlt | hge
        · have v1:((1:Int) == ((s.length:Nat):Int)) = false:=by simp;omega
          have hbI:=bget s 1 hlt
          have hII:(1:Int) < ((s.length:Nat):Int):=by omega
          have HDG:=Lib.hid (fun W=>digit_at s 1 hlt W)
          rw [hd0] at HDG
          clear hd0
          go_wp2_with fail
          refine (HDG.out _).mono ?_
          rintro e w' ⟨rfl,rfl⟩
          go_wp2_with fail
          go_step3
          exact ⟨⟨_,rfl⟩,RJ.wrong HW.out (RF.mk rfl rfl rfl rfl rfl rfl rfl) HR1.out,by decide⟩
        · have hee:s.length = 1:=by have:=HP0L.out;rw [HP.out] at this;omega
          have v1:((1:Int) == ((s.length:Nat):Int)) = true:=by rw [hee];rfl
          have HEE:=Lib.hid hee
          clear hd0 hee
          go_wp2_with fail
          go_step3
          exact ⟨⟨_,rfl⟩,RJ.wrong HW.out (RF.mk rfl rfl rfl rfl rfl rfl rfl) HR1.out,by decide⟩
      | true =>
        have hlt:=dAt_lt hd0
        have v1:((1:Int) == ((s.length:Nat):Int)) = false:=by simp;omega
        have hbI:=bget s 1 hlt
        have hII:(1:Int) < ((s.length:Nat):Int):=by omega
        have HDG:=Lib.hid (fun W=>digit_at s 1 hlt W)
        rw [hd0] at HDG
        have H0:Go.RowKit.Hid (dAt s (p0 s) = true):=Lib.hid (by rw [HP.out];exact hd0)
        have HPL:=Lib.hid (show 1 ≤ s.length by omega)
        have k48:(((bt s 1:Nat):Int) == 48) = (s[1]? == some 48):=bt_is hlt 48
        clear hd0
        cases hz:s[1]? == some 48 with
        | true =>
          have HP1:=Lib.hid (show p1 s = 1 + 1 by unfold p1;rw [HP.out,if_pos (by simpa using hz)])
          rw [hz] at k48
          clear hz
          go_wp2_with fail
          refine (HDG.out _).mono ?_
          rintro e w' ⟨rfl,rfl⟩
          go_wp2_with fail
          go_step3
          refine ⟨⟨_,rfl⟩,?_,by decide⟩
          exact RJ.point H0.out (RF.mk rfl rfl rfl rfl rfl rfl (by rw [HP1.out];rfl)) (by rw [HP.out];rfl) (by rw [HN.out];exact HR1.out)
        | false =>
          have HP1:=Lib.hid (show p1 s = ov s 1 by unfold p1;rw [HP.out,if_neg (by simpa using hz)])
          rw [hz] at k48
          clear hz
          go_wp2_with fail
          refine (HDG.out _).mono ?_
          rintro e w' ⟨rfl,rfl⟩
          go_wp2_with fail
          go_loop [5] (fun v=>∃ k:Nat,v = .int .i64 (k:Int) ∧ 1 ≤ k ∧ k ≤ ov s 1 ∧ k ≤ s.length) (fun v=>s.length - (intOf v).toNat)
          case atStart=>exact ⟨1,by go_num,Nat.le_refl _,ov_ge _ _,HPL.out⟩
          case round =>
            obtain ⟨k,rfl,hk1,hk2,hk3⟩:=hrel
            have hkl:((k:Nat):Int) ≤ ((s.length:Nat):Int):=by omega
            cases hdk:dAt s k with
            | true =>
              have hlk:=dAt_lt hdk
              have u1:decide (((k:Nat):Int) < ((s.length:Nat):Int)) = true:=by simp;omega
              have u2:decide (k < s.length) = true:=by simpa using hlk
              have hbk:=bget s k hlk
              have HDG:=Lib.hid (fun W=>digit_at s k hlk W)
              rw [hdk] at HDG
              have HN:=Lib.hid (show k + 1 ≤ ov s 1 by
                have e1:=ov_ov (s:=s) hk1 hk2
                have e2:=ov_at hdk
                omega)
              have HKA:=Lib.hid (show 1 ≤ k + 1 ∧ k + 1 ≤ s.length from ⟨by omega,hlk⟩)
              have hki:((k:Nat):Int) < ((s.length:Nat):Int):=by omega
              have HM:=Lib.hid hlk
              clear hk1 hk2 hk3 hdk
              go_wp2_with fail
              refine (HDG.out _).mono ?_
              rintro e w' ⟨rfl,rfl⟩
              go_wp2_with fail
              go_round
              case rel=>exact ⟨k + 1,by go_num,HKA.out.1,HN.out,HKA.out.2⟩
              case measure=>have:=HM.out;simp [intOf];omega
            | false =>
              have hov:ov s 1 = k:=by rw [← ov_ov hk1 hk2,ov_no hdk]
              have hstop:(decide (((k:Nat):Int) < ((s.length:Nat):Int)) = false ∧ decide (k < s.length) = false ∧ k = s.length) ∨ (decide (((k:Nat):Int) < ((s.length:Nat):Int)) = true ∧ decide (k < s.length) = true ∧ k < s.length):=by
                rcases Nat.lt_or_ge k s.length with h | h
                · right;exact ⟨by simp;omega,by simpa using h,h⟩
                · left;exact ⟨by simp;omega,by simpa using h,by omega⟩
              have HDK:=Lib.hid hdk
              have HOV:=Lib.hid hov
              have HK1:=Lib.hid hk1
              clear hdk hov hk2 hk3
              have HPK:=Lib.hid (show p1 s = k by rw [HP1.out];exact HOV.out)
              clear hk1
              rcases hstop with ⟨u1,u2,hkk⟩ | ⟨u1,u2,hkk⟩
              · clear hkk
                go_wp2_with fail
                go_step3
                refine wp_back (by assumption) ?_
                refine HH.out 1 _ _ _ (by decide) rfl ?_
                exact RJ.point H0.out (RF.mk rfl rfl rfl rfl rfl rfl (by rw [HPK.out];rfl)) (by rw [HP.out];rfl) (by rw [HN.out];exact HR1.out)
              · have hbk:=bget s k hkk
                have HDG:=Lib.hid (fun W=>digit_at s k hkk W)
                rw [HDK.out] at HDG
                have hki:((k:Nat):Int) < ((s.length:Nat):Int):=by omega
                go_wp2_with fail
                refine (HDG.out _).mono ?_
                rintro e w' ⟨rfl,rfl⟩
                go_wp2_with fail
                go_step3
                refine wp_back (by assumption) ?_
                refine HH.out 1 _ _ _ (by decide) rfl ?_
                exact RJ.point H0.out (RF.mk rfl rfl rfl rfl rfl rfl (by rw [HPK.out];rfl)) (by rw [HP.out];rfl) (by rw [HN.out];exact HR1.out)
    · have HN:=Lib.hid hn
      have HP:=Lib.hid hp
      clear hn hp
      have hsgn:(decide ((0:Int) < ((s.length:Nat):Int)) = false ∧ decide (0 < s.length) = false) ∨ (0 < s.length ∧ (((bt s 0:Nat):Int) == 45) = false):=by
        rcases hor with h | h
        · left;rw [h];exact ⟨rfl,rfl⟩
        · right;exact h
      clear hor
      rcases hsgn with ⟨u1,u2⟩ | ⟨hl,k1⟩
      · have h00:s.length = 0:=by have:=of_decide_eq_false u2;omega
        have v1:((0:Int) == ((s.length:Nat):Int)) = true:=by rw [h00];rfl
        have HW:Go.RowKit.Hid (wrongP s = some 0):=Lib.hid (by unfold wrongP;rw [HP.out,if_pos (dAt_ge (by omega))])
        have HZ:=Lib.hid h00
        clear h00
        go_wp2_with fail
        go_step3
        exact ⟨⟨_,rfl⟩,RJ.wrong HW.out (RF.mk rfl rfl rfl rfl rfl rfl rfl) HR0.out,by decide⟩
      · have hb:=bget s 0 hl
        have hI:(0:Int) < ((s.length:Nat):Int):=by omega
        have u1:decide (0 < s.length) = true:=by simpa using hl
        have hsl:((s.length:Nat):Int) ≤ 140737488353000:=hlen
        cases hd0:dAt s 0 with
        | false =>
          have HW:Go.RowKit.Hid (wrongP s = some 0):=Lib.hid (by unfold wrongP;rw [HP.out,if_pos hd0])
          rcases Nat.lt_or_ge 0 s.length with hlt | hge
          · have v1:((0:Int) == ((s.length:Nat):Int)) = false:=by simp;omega
            have hbI:=bget s 0 hlt
            have hII:(0:Int) < ((s.length:Nat):Int):=by omega
            have HDG:=Lib.hid (fun W=>digit_at s 0 hlt W)
            rw [hd0] at HDG
            clear hd0
            go_wp2_with fail
            refine (HDG.out _).mono ?_
            rintro e w' ⟨rfl,rfl⟩
            go_wp2_with fail
            go_step3
            exact ⟨⟨_,rfl⟩,RJ.wrong HW.out (RF.mk rfl rfl rfl rfl rfl rfl rfl) HR0.out,by decide⟩
          · have hee:s.length = 0:=by have:=HP0L.out;rw [HP.out] at this;omega
            have v1:((0:Int) == ((s.length:Nat):Int)) = true:=by rw [hee];rfl
            have HEE:=Lib.hid hee
            clear hd0 hee
            go_wp2_with fail
            go_step3
            exact ⟨⟨_,rfl⟩,RJ.wrong HW.out (RF.mk rfl rfl rfl rfl rfl rfl rfl) HR0.out,by decide⟩
        | true =>
          have hlt:=dAt_lt hd0
          have v1:((0:Int) == ((s.length:Nat):Int)) = false:=by simp;omega
          have hbI:=bget s 0 hlt
          have hII:(0:Int) < ((s.length:Nat):Int):=by omega
          have HDG:=Lib.hid (fun W=>digit_at s 0 hlt W)
          rw [hd0] at HDG
          have H0:Go.RowKit.Hid (dAt s (p0 s) = true):=Lib.hid (by rw [HP.out];exact hd0)
          have HPL:=Lib.hid (show 0 ≤ s.length by omega)
          have k48:(((bt s 0:Nat):Int) == 48) = (s[0]? == some 48):=bt_is hlt 48
          clear hd0
          cases hz:s[0]? == some 48 with
          | true =>
            have HP1:=Lib.hid (show p1 s = 0 + 1 by unfold p1;rw [HP.out,if_pos (by simpa using hz)])
            rw [hz] at k48
            clear hz
            go_wp2_with fail
            refine (HDG.out _).mono ?_
            rintro e w' ⟨rfl,rfl⟩
            go_wp2_with fail
            go_step3
            refine ⟨⟨_,rfl⟩,?_,by decide⟩
            exact RJ.point H0.out (RF.mk rfl rfl rfl rfl rfl rfl (by rw [HP1.out];rfl)) (by rw [HP.out];rfl) (by rw [HN.out];exact HR0.out)
          | false =>
            have HP1:=Lib.hid (show p1 s = ov s 0 by unfold p1;rw [HP.out,if_neg (by simpa using hz)])
            rw [hz] at k48
            clear hz
            go_wp2_with fail
            refine (HDG.out _).mono ?_
            rintro e w' ⟨rfl,rfl⟩
            go_wp2_with fail
            go_loop [5] (fun v=>∃ k:Nat,v = .int .i64 (k:Int) ∧ 0 ≤ k ∧ k ≤ ov s 0 ∧ k ≤ s.length) (fun v=>s.length - (intOf v).toNat)
            case atStart=>exact ⟨0,by go_num,Nat.le_refl _,ov_ge _ _,HPL.out⟩
            case round =>
              obtain ⟨k,rfl,hk1,hk2,hk3⟩:=hrel
              have hkl:((k:Nat):Int) ≤ ((s.length:Nat):Int):=by omega
              cases hdk:dAt s k with
              | true =>
                have hlk:=dAt_lt hdk
                have u1:decide (((k:Nat):Int) < ((s.length:Nat):Int)) = true:=by simp;omega
                have u2:decide (k < s.length) = true:=by simpa using hlk
                have hbk:=bget s k hlk
                have HDG:=Lib.hid (fun W=>digit_at s k hlk W)
                rw [hdk] at HDG
                have HN:=Lib.hid (show k + 1 ≤ ov s 0 by
                  have e1:=ov_ov (s:=s) hk1 hk2
                  have e2:=ov_at hdk
                  omega)
                have HKA:=Lib.hid (show 0 ≤ k + 1 ∧ k + 1 ≤ s.length from ⟨by omega,hlk⟩)
                have hki:((k:Nat):Int) < ((s.length:Nat):Int):=by omega
                have HM:=Lib.hid hlk
                clear hk1 hk2 hk3 hdk
                go_wp2_with fail
                refine (HDG.out _).mono ?_
                rintro e w' ⟨rfl,rfl⟩
                go_wp2_with fail
                go_round
                case rel=>exact ⟨k + 1,by go_num,HKA.out.1,HN.out,HKA.out.2⟩
                case measure=>have:=HM.out;simp [intOf];omega
              | false =>
                have hov:ov s 0 = k:=by rw [← ov_ov hk1 hk2,ov_no hdk]
                have hstop:(decide (((k:Nat):Int) < ((s.length:Nat):Int)) = false ∧ decide (k < s.length) = false ∧ k = s.length) ∨ (decide (((k:Nat):Int) < ((s.length:Nat):Int)) = true ∧ decide (k < s.length) = true ∧ k < s.length):=by
                  rcases Nat.lt_or_ge k s.length with h | h
                  · right;exact ⟨by simp;omega,by simpa using h,h⟩
                  · left;exact ⟨by simp;omega,by simpa using h,by omega⟩
                have HDK:=Lib.hid hdk
                have HOV:=Lib.hid hov
                have HK1:=Lib.hid hk1
                clear hdk hov hk2 hk3
                have HPK:=Lib.hid (show p1 s = k by rw [HP1.out];exact HOV.out)
                clear hk1
                rcases hstop with ⟨u1,u2,hkk⟩ | ⟨u1,u2,hkk⟩
                · clear hkk
                  go_wp2_with fail
                  go_step3
                  refine wp_back (by assumption) ?_
                  refine HH.out 1 _ _ _ (by decide) rfl ?_
                  exact RJ.point H0.out (RF.mk rfl rfl rfl rfl rfl rfl (by rw [HPK.out];rfl)) (by rw [HP.out];rfl) (by rw [HN.out];exact HR0.out)
                · have hbk:=bget s k hkk
                  have HDG:=Lib.hid (fun W=>digit_at s k hkk W)
                  rw [HDK.out] at HDG
                  have hki:((k:Nat):Int) < ((s.length:Nat):Int):=by omega
                  go_wp2_with fail
                  refine (HDG.out _).mono ?_
                  rintro e w' ⟨rfl,rfl⟩
                  go_wp2_with fail
                  go_step3
                  refine wp_back (by assumption) ?_
                  refine HH.out 1 _ _ _ (by decide) rfl ?_
                  exact RJ.point H0.out (RF.mk rfl rfl rfl rfl rfl rfl (by rw [HPK.out];rfl)) (by rw [HP.out];rfl) (by rw [HN.out];exact HR0.out)
  · intro l rest a W hf hJ H
    rcases hJ with ⟨rfl,q,c0,c1,c2,c3,c4,hq,hF,hd⟩ | ⟨rfl,h0,hF,h6,hd⟩ | ⟨rfl,h0,h1,hF,hd⟩
    · obtain ⟨_,rfl⟩:=Code.seq.inj (Option.some.inj hf)
      clear H
      obtain ⟨v6,h6⟩:∃ v,a.tmps.getD 6 undef = v:=⟨_,rfl⟩
      obtain ⟨U,rfl⟩:=hF.open h6
      have HQ:=Lib.hid hq
      have HB:=Lib.hid hd.2.2
      obtain ⟨b2,_,_⟩:=hd
      have d0:=b2.cell 0
      have d1:=b2.cell 1
      have d2:=b2.cell 2
      have d3:=b2.cell 3
      have d4:=b2.cell 4
      have f0:=b2.frozen 0
      have f1:=b2.frozen 1
      have f2:=b2.frozen 2
      have f3:=b2.frozen 3
      have f4:=b2.frozen 4
      have HE:=Lib.hid (((((b2.set1 0 (.bool false)).set1 1 (sv [])).set1 2 (sv [])).set1 3 (.bool false)).set1 4 (sv []))
      clear hq b2 hF h6
      go_wp2_with fail
      have e0:=HE.out.cell 0
      have e1:=HE.out.cell 1
      have e2:=HE.out.cell 2
      have e3:=HE.out.cell 3
      have e4:=HE.out.cell 4
      refine (?_:bodyPost Tryz.prog Tryz.f96 (fun e w'=>e = .returned (litV s) ∧ Below w.heap.size w w') .ret _ _)
      exact bodyPost_ret (v:=.tuple #[.agg #[.bool false,.string ⟨#[]⟩,.string ⟨#[]⟩,.bool false,.string ⟨#[]⟩],.int .i64 (q:Nat)]) (by simp [results,Tryz.results96,go_sem,e0,e1,e2,e3,e4]) rfl ⟨by unfold litV;rw [HQ.out],(((((HB.out.setCell (p:=⟨w.heap.size,0,none⟩) (Nat.le_refl _) _).setCell (p:=⟨w.heap.size,1,none⟩) (Nat.le_refl _) _).setCell (p:=⟨w.heap.size,2,none⟩) (Nat.le_refl _) _).setCell (p:=⟨w.heap.size,3,none⟩) (Nat.le_refl _) _).setCell (p:=⟨w.heap.size,4,none⟩) (Nat.le_refl _) _)⟩
    · obtain ⟨_,rfl⟩:=Code.seq.inj (Option.some.inj hf)
      obtain ⟨U,rfl⟩:=hF.open h6
      clear hF h6
      have HH:=Lib.hid H
      have H0:=Lib.hid h0
      obtain ⟨b2,b4,hB⟩:=hd
      have hx:=ext_cut s (p0 s) (p1 s)
      have HX:Go.RowKit.Hid (cutL s (p0 s) (p1 s) = wholeP s):=Lib.hid rfl
      rw [HX.out] at hx
      have hp01:((p0 s:Nat):Int) ≤ ((p1 s:Nat):Int):=by
        have:p0 s ≤ p1 s:=by unfold p1;split;omega;exact ov_ge _ _
        omega
      have hp1l:=p1_le (s:=s)
      have hp1I:((p1 s:Nat):Int) ≤ ((s.length:Nat):Int):=by omega
      have HB:=Lib.hid (hB.setCell (p:=⟨w.heap.size + 1,1,none⟩) (by simp) (sv (wholeP s)))
      have H2:=Lib.hid (b2.far (p:=⟨w.heap.size + 1,1,none⟩) (by simp) (sv (wholeP s)))
      have H4:=Lib.hid (b4.set1 1 (sv (wholeP s)))
      have x1:=b4.cell 1
      have y1:=b4.frozen 1
      have hsm:((s.length:Nat):Int) ≤ 140737488353000:=by omega
      clear H h0 b2 b4 hB
      cases hpt:pt s with
      | false =>
        have HP2:=Lib.hid (show p2 s = p1 s by unfold p2;rw [hpt];rfl)
        have HBE:=Lib.hid (show behindP s = [] by unfold behindP;rw [hpt];rfl)
        have HT:Go.RowKit.Hid (pt s = true → dAt s (p1 s + 1) = true):=Lib.hid (fun h=>by rw [hpt] at h;cases h)
        rcases Nat.lt_or_ge (p1 s) s.length with hlt | hge
        · have k1:=bt_is hlt 46
          have t1:(((p1 s:Nat):Int) == ((s.length:Nat):Int)) = false:=by simp;omega
          have t2:(((bt s (p1 s):Nat):Int) != 46) = true:=by
            unfold pt at hpt
            rw [hpt] at k1
            show (!(((bt s (p1 s):Nat):Int) == 46)) = true
            rw [show (((bt s (p1 s):Nat):Int) == 46) = false from k1];rfl
          have hb:=bget s (p1 s) hlt
          have hlI:((p1 s:Nat):Int) < ((s.length:Nat):Int):=by omega
          clear hpt k1 hp1l
          go_wp2_with fail
          go_step3
          exact ⟨⟨_,rfl⟩,RJ.ten H0.out HT.out (RF.mk rfl rfl rfl rfl rfl rfl (by rw [HP2.out];rfl)) ⟨H2.out,by rw [HBE.out];exact H4.out,HB.out⟩,by decide⟩
        · have t1:(((p1 s:Nat):Int) == ((s.length:Nat):Int)) = true:=by simp;omega
          clear hpt hge hp1l
          go_wp2_with fail
          go_step3
          exact ⟨⟨_,rfl⟩,RJ.ten H0.out HT.out (RF.mk rfl rfl rfl rfl rfl rfl (by rw [HP2.out];rfl)) ⟨H2.out,by rw [HBE.out];exact H4.out,HB.out⟩,by decide⟩
      | true =>
        have hlt:=pt_lt hpt
        have k1:=bt_is hlt 46
        have t1:(((p1 s:Nat):Int) == ((s.length:Nat):Int)) = false:=by simp;omega
        have t2:(((bt s (p1 s):Nat):Int) != 46) = false:=by
          have hp2:=hpt
          unfold pt at hp2
          rw [hp2] at k1
          show (!(((bt s (p1 s):Nat):Int) == 46)) = false
          rw [show (((bt s (p1 s):Nat):Int) == 46) = true from k1];rfl
        have hb:=bget s (p1 s) hlt
        have hlI:((p1 s:Nat):Int) < ((s.length:Nat):Int):=by omega
        have HPT:=Lib.hid hpt
        have HPL:=Lib.hid (show p1 s + 1 ≤ s.length from hlt)
        have hcast:((p1 s + 1:Nat):Int) = ((p1 s:Nat):Int) + 1:=by omega
        have HCA:=Lib.hid hcast
        clear hpt k1 hp1l hcast
        go_wp2_with fail
        go_loop [5] (fun v=>∃ k:Nat,v = .int .i64 (k:Int) ∧ p1 s + 1 ≤ k ∧ k ≤ ov s (p1 s + 1) ∧ k ≤ s.length) (fun v=>s.length - (intOf v).toNat)
        case atStart=>exact ⟨p1 s + 1,by go_num,Nat.le_refl _,ov_ge _ _,HPL.out⟩
        case round =>
          obtain ⟨k,rfl,hk1,hk2,hk3⟩:=hrel
          have hkl:((k:Nat):Int) ≤ ((s.length:Nat):Int):=by omega
          cases hdk:dAt s k with
          | true =>
            have hlk:=dAt_lt hdk
            have u1:decide (((k:Nat):Int) < ((s.length:Nat):Int)) = true:=by simp;omega
            have u2:decide (k < s.length) = true:=by simpa using hlk
            have hbk:=bget s k hlk
            have HDG:=Lib.hid (fun W=>digit_at s k hlk W)
            rw [hdk] at HDG
            have HN:=Lib.hid (show k + 1 ≤ ov s (p1 s + 1) by
              have e1:=ov_ov (s:=s) hk1 hk2
              have e2:=ov_at hdk
              omega)
            have HKA:=Lib.hid (show p1 s + 1 ≤ k + 1 ∧ k + 1 ≤ s.length from ⟨by omega,hlk⟩)
            have hki:((k:Nat):Int) < ((s.length:Nat):Int):=by omega
            have HM:=Lib.hid hlk
            clear hk1 hk2 hk3 hdk
            go_wp2_with fail
            refine (HDG.out _).mono ?_
            rintro e w' ⟨rfl,rfl⟩
            go_wp2_with fail
            go_round
            case rel=>exact ⟨k + 1,by go_num,HKA.out.1,HN.out,HKA.out.2⟩
            case measure=>have:=HM.out;simp [intOf];omega
          | false =>
            have hov:ov s (p1 s + 1) = k:=by rw [← ov_ov hk1 hk2,ov_no hdk]
            have hstop:(decide (((k:Nat):Int) < ((s.length:Nat):Int)) = false ∧ decide (k < s.length) = false ∧ k = s.length) ∨ (decide (((k:Nat):Int) < ((s.length:Nat):Int)) = true ∧ decide (k < s.length) = true ∧ k < s.length):=by
              rcases Nat.lt_or_ge k s.length with h | h
              · right;exact ⟨by simp;omega,by simpa using h,h⟩
              · left;exact ⟨by simp;omega,by simpa using h,by omega⟩
            have HDK:=Lib.hid hdk
            have HOV:=Lib.hid hov
            have HK1:=Lib.hid hk1
            clear hdk hov hk2 hk3
            have hp2:p2 s = k:=by unfold p2;rw [HPT.out,if_pos rfl];exact HOV.out
            have HP2:=Lib.hid hp2
            have HBE:=Lib.hid (show behindP s = cutL s (p1 s + 1) k by unfold behindP;rw [HPT.out,if_pos rfl,hp2])
            have hx2:=ext_cut s (p1 s + 1) k
            rw [← HBE.out] at hx2
            have hsplit:((((k:Nat):Int) == ((p1 s:Nat):Int) + 1) = true ∧ k = p1 s + 1) ∨ ((((k:Nat):Int) == ((p1 s:Nat):Int) + 1) = false ∧ k ≠ p1 s + 1):=by
              by_cases h:k = p1 s + 1
              · left;exact ⟨by rw [h];simp,h⟩
              · right;exact ⟨by simp;omega,h⟩
            have hnn:(((p1 s:Nat):Int) + 1).toNat = p1 s + 1:=by omega
            have hpk:((p1 s:Nat):Int) + 1 ≤ ((k:Nat):Int):=by have:=HK1.out;omega
            have z2:=H4.out.cell 2
            have g2:=H4.out.frozen 2
            clear hp2 hk1
            rcases hsplit with ⟨v1,hkp⟩ | ⟨v1,hkp⟩
            · have HKP:=Lib.hid hkp
              have HW:Go.RowKit.Hid (wrongP s = some k):=Lib.hid (by
                unfold wrongP
                rw [if_neg (by simp [H0.out]),if_pos ⟨HPT.out,by rw [← hkp];exact HDK.out⟩,hkp])
              clear hkp
              rcases hstop with ⟨u1,u2,hkk⟩ | ⟨u1,u2,hkk⟩
              · clear hkk
                go_wp2_with fail
                go_step3
                exact ⟨⟨_,rfl⟩,RJ.wrong HW.out (RF.mk rfl rfl rfl rfl rfl rfl rfl) ⟨H2.out,H4.out,HB.out⟩,by decide⟩
              · have hbk:=bget s k hkk
                have HDG:=Lib.hid (fun W=>digit_at s k hkk W)
                rw [HDK.out] at HDG
                have hki:((k:Nat):Int) < ((s.length:Nat):Int):=by omega
                go_wp2_with fail
                refine (HDG.out _).mono ?_
                rintro e w' ⟨rfl,rfl⟩
                go_wp2_with fail
                go_step3
                exact ⟨⟨_,rfl⟩,RJ.wrong HW.out (RF.mk rfl rfl rfl rfl rfl rfl rfl) ⟨H2.out,H4.out,HB.out⟩,by decide⟩
            · have HT:Go.RowKit.Hid (pt s = true → dAt s (p1 s + 1) = true):=Lib.hid (fun _=>dAt_mid (Nat.le_refl _) (by have:=HOV.out;have:=HK1.out;omega))
              clear hkp
              rcases hstop with ⟨u1,u2,hkk⟩ | ⟨u1,u2,hkk⟩
              · clear hkk
                go_wp2_with fail
                go_step3
                refine wp_back (by assumption) ?_
                refine HH.out 2 _ _ _ (by decide) rfl ?_
                exact RJ.ten H0.out HT.out (RF.mk rfl rfl rfl rfl rfl rfl (by rw [HP2.out];rfl)) ⟨H2.out.far (p:=⟨w.heap.size + 1,2,none⟩) (by simp) _,H4.out.set1 2 (sv (behindP s)),HB.out.setCell (p:=⟨w.heap.size + 1,2,none⟩) (by simp) _⟩
              · have hbk:=bget s k hkk
                have HDG:=Lib.hid (fun W=>digit_at s k hkk W)
                rw [HDK.out] at HDG
                have hki:((k:Nat):Int) < ((s.length:Nat):Int):=by omega
                go_wp2_with fail
                refine (HDG.out _).mono ?_
                rintro e w' ⟨rfl,rfl⟩
                go_wp2_with fail
                go_step3
                refine wp_back (by assumption) ?_
                refine HH.out 2 _ _ _ (by decide) rfl ?_
                exact RJ.ten H0.out HT.out (RF.mk rfl rfl rfl rfl rfl rfl (by rw [HP2.out];rfl)) ⟨H2.out.far (p:=⟨w.heap.size + 1,2,none⟩) (by simp) _,H4.out.set1 2 (sv (behindP s)),HB.out.setCell (p:=⟨w.heap.size + 1,2,none⟩) (by simp) _⟩
    · obtain ⟨_,rfl⟩:=Code.seq.inj (Option.some.inj hf)
      obtain ⟨v6,h6⟩:∃ v,a.tmps.getD 6 undef = v:=⟨_,rfl⟩
      obtain ⟨U,rfl⟩:=hF.open h6
      clear hF h6
      have HH:=Lib.hid H
      have HD:=Lib.hid hd
      clear H hd
      have hle:p2 s ≤ s.length:=p2_le
      have hsm:((p2 s:Nat):Int) ≤ 140737488353000:=by omega
      rcases Nat.lt_or_ge (p2 s) s.length with hlt | hge
      · have t1:(((p2 s:Nat):Int) == ((s.length:Nat):Int)) = false:=by simp;omega
        have hb:=bget s (p2 s) hlt
        have k1:=bt_is hlt 101
        have k2:=bt_is hlt 69
        cases hE:hasE s with
        | false =>
          have hE2:=hE
          unfold hasE at hE2
          simp only [Bool.or_eq_false_iff] at hE2
          rw [hE2.1] at k1
          rw [hE2.2] at k2
          have t2:(((bt s (p2 s):Nat):Int) != 101) = true:=by show (!(((bt s (p2 s):Nat):Int) == 101)) = true;rw [show (((bt s (p2 s):Nat):Int) == 101) = false from k1];rfl
          have t3:(((bt s (p2 s):Nat):Int) != 69) = true:=by show (!(((bt s (p2 s):Nat):Int) == 69)) = true;rw [show (((bt s (p2 s):Nat):Int) == 69) = false from k2];rfl
          have HQ:Go.RowKit.Hid (wrongP s = some (p2 s)):=Lib.hid (by
            unfold wrongP
            rw [if_neg (by simp [h0]),if_neg (fun h=>by have:=h1 h.1;rw [this] at h;cases h.2),if_neg (by simp [hE]),show p4 s = p2 s by unfold p4;simp [hE],if_pos hlt])
          have hlI:((p2 s:Nat):Int) < ((s.length:Nat):Int):=by omega
          clear h0 h1 hE hE2 k1 k2 hle
          have HI:Go.RowKit.Hid (p2 s = p2 s):=Lib.hid rfl
          go_wp2_with fail
          go_step3
          exact ⟨⟨_,rfl⟩,RJ.wrong HQ.out (RF.mk rfl rfl rfl rfl rfl rfl rfl) HD.out,by decide⟩
        | true =>
          have hE2:=hE
          unfold hasE at hE2
          have hcc:(s[p2 s]? == some 101) = true ∨ ((s[p2 s]? == some 101) = false ∧ (s[p2 s]? == some 69) = true):=by
            cases h:s[p2 s]? == some 101 with
            | true=>exact .inl rfl
            | false=>rw [h] at hE2;exact .inr ⟨rfl,by simpa using hE2⟩
          have t2:(((bt s (p2 s):Nat):Int) != 101) = false ∨ ((((bt s (p2 s):Nat):Int) != 101) = true ∧ (((bt s (p2 s):Nat):Int) != 69) = false):=by
            rcases hcc with h | ⟨h,h'⟩
            · left;rw [h] at k1;show (!(((bt s (p2 s):Nat):Int) == 101)) = false;rw [show (((bt s (p2 s):Nat):Int) == 101) = true from k1];rfl
            · right;rw [h] at k1;rw [h'] at k2
              exact ⟨by show (!(((bt s (p2 s):Nat):Int) == 101)) = true;rw [show (((bt s (p2 s):Nat):Int) == 101) = false from k1];rfl,by show (!(((bt s (p2 s):Nat):Int) == 69)) = false;rw [show (((bt s (p2 s):Nat):Int) == 69) = true from k2];rfl⟩
          clear hcc k1 k2 hE2
          have hlI:((p2 s:Nat):Int) < ((s.length:Nat):Int):=by omega
          have HE0:=Lib.hid hE
          have H0:=Lib.hid h0
          have H1:=Lib.hid h1
          have HLT:=Lib.hid hlt
          clear hE h0 h1 hle
          have hcases:(s.length ≤ p2 s + 1 ∧ sgn s = false ∧ underP s = false) ∨ (p2 s + 1 < s.length ∧ ((((((bt s (p2 s + 1):Nat):Int) == 43) = true ∧ ((((bt s (p2 s + 1):Nat):Int) == 45) = false)) ∧ sgn s = true ∧ underP s = false) ∨ (((((bt s (p2 s + 1):Nat):Int) == 43) = false ∧ ((((bt s (p2 s + 1):Nat):Int) == 45) = true)) ∧ sgn s = true ∧ underP s = true) ∨ (((((bt s (p2 s + 1):Nat):Int) == 43) = false ∧ ((((bt s (p2 s + 1):Nat):Int) == 45) = false)) ∧ sgn s = false ∧ underP s = false))):=by
            unfold sgn underP
            rw [HE0.out]
            rcases Nat.lt_or_ge (p2 s + 1) s.length with h | h
            · right
              refine ⟨h,?_⟩
              have k1:=bt_is h 43
              have k2:=bt_is h 45
              have e1:(((bt s (p2 s + 1):Nat):Int) == 43) = (s[p2 s + 1]? == some 43):=k1
              have e2:(((bt s (p2 s + 1):Nat):Int) == 45) = (s[p2 s + 1]? == some 45):=k2
              rw [e1,e2]
              cases h1:s[p2 s + 1]? == some 43 with
              | true =>
                have h2:(s[p2 s + 1]? == some 45) = false:=by
                  rw [beq_iff_eq] at h1;rw [h1];rfl
                left;exact ⟨⟨rfl,h2⟩,by simp,by rw [h2];rfl⟩
              | false =>
                cases h2:s[p2 s + 1]? == some 45 with
                | true=>right;left;exact ⟨⟨rfl,rfl⟩,rfl,rfl⟩
                | false=>right;right;exact ⟨⟨rfl,rfl⟩,rfl,rfl⟩
            · left
              rw [List.getElem?_eq_none h]
              exact ⟨h,rfl,rfl⟩
          have HCS:=Lib.hid hcases
          have hlen:((s.length:Nat):Int) ≤ 140737488353000:=by omega
          clear hcases
          have hpl:=p3_le HE0.out
          have h3e:p3 s = if sgn s then p2 s + 2 else p2 s + 1:=rfl
          have HP3:=Lib.hid h3e
          have HPL:=Lib.hid hpl
          clear hpl h3e
          rcases t2 with t2 | ⟨t2,t3⟩
          all_goals
            go_upto_region 24 with fail
            go_cut [120] from 105 to 120 (fun s120 wx=>s120 = .bool (sgn s) ∧ wx = W)
            case first =>
              rcases HCS.out with ⟨h,hsg,hun⟩ | ⟨h,⟨⟨k1,k2⟩,hsg,hun⟩ | ⟨⟨k1,k2⟩,hsg,hun⟩ | ⟨⟨k1,k2⟩,hsg,hun⟩⟩
              · have u1:decide (((p2 s:Nat):Int) + 1 < ((s.length:Nat):Int)) = false:=by simp;omega
                have HU:=Lib.hid hsg
                clear hsg hun h
                go_wp2_with fail
                go_meet
                exact ⟨by rw [HU.out],rfl⟩
              · have u1:decide (((p2 s:Nat):Int) + 1 < ((s.length:Nat):Int)) = true:=by simp;omega
                have hb1:=bget s (p2 s + 1) h
                have hIl:((p2 s:Nat):Int) + 1 < ((s.length:Nat):Int):=by omega
                have hnn:(((p2 s:Nat):Int) + 1).toNat = p2 s + 1:=by omega
                have HU:=Lib.hid hsg
                clear hsg hun
                go_wp2_with fail
                go_meet
                exact ⟨by rw [HU.out],rfl⟩
              · have u1:decide (((p2 s:Nat):Int) + 1 < ((s.length:Nat):Int)) = true:=by simp;omega
                have hb1:=bget s (p2 s + 1) h
                have hIl:((p2 s:Nat):Int) + 1 < ((s.length:Nat):Int):=by omega
                have hnn:(((p2 s:Nat):Int) + 1).toNat = p2 s + 1:=by omega
                have HU:=Lib.hid hsg
                clear hsg hun
                go_wp2_with fail
                go_meet
                exact ⟨by rw [HU.out],rfl⟩
              · have u1:decide (((p2 s:Nat):Int) + 1 < ((s.length:Nat):Int)) = true:=by simp;omega
                have hb1:=bget s (p2 s + 1) h
                have hIl:((p2 s:Nat):Int) + 1 < ((s.length:Nat):Int):=by omega
                have hnn:(((p2 s:Nat):Int) + 1).toNat = p2 s + 1:=by omega
                have HU:=Lib.hid hsg
                clear hsg hun
                go_wp2_with fail
                go_meet
                exact ⟨by rw [HU.out],rfl⟩
            case rest =>
            obtain ⟨rfl,rfl⟩:=hcut
            go_upto_if 120 with fail
            go_cut [5] from 120 to 127 (fun s5 wx=>s5 = .int .i64 ((p3 s:Nat):Int) ∧ RD w w.heap.size (negP s) (wholeP s) (behindP s) (underP s) [] wx)
            case first =>
              rcases HCS.out with ⟨h,hsg,hun⟩ | ⟨h,⟨⟨k1,k2⟩,hsg,hun⟩ | ⟨⟨k1,k2⟩,hsg,hun⟩ | ⟨⟨k1,k2⟩,hsg,hun⟩⟩
              · have hp3:=HP3.out
                rw [hsg] at hp3
                simp only [if_true,if_false,Bool.false_eq_true] at hp3
                have HP:=Lib.hid hp3
                have HU:=Lib.hid hun
                have HG:=Lib.hid hsg
                have hb1:=fun h=>bget s (p2 s + 1) h
                have hnn:(((p2 s:Nat):Int) + 1).toNat = p2 s + 1:=by omega
                have hIl:p2 s + 1 < s.length → ((p2 s:Nat):Int) + 1 < ((s.length:Nat):Int):=fun h=>by omega
                obtain ⟨b2,b4,hB⟩:=HD.out
                have HB:=Lib.hid hB
                have H2:=Lib.hid b2
                have HWt:=Lib.hid (b4.set1 3 (.bool true))
                have HWf:=Lib.hid (b4.set1 3 (.bool false))
                have H4:=Lib.hid b4
                have x3:=b4.cell 3
                have y3:=b4.frozen 3
                clear hp3 hun hB b2 b4
                try (have hb2:=hb1 h)
                try (have hI2:=hIl h)
                clear hb1 hIl
                rw [hsg]
                clear hsg
                go_wp2_with fail
                go_meet
                first
                  | exact ⟨by rw [HP.out];go_num,by rw [HU.out];exact ⟨H2.out,H4.out,HB.out⟩⟩
                  | exact ⟨by rw [HP.out];go_num,by rw [HU.out];exact ⟨H2.out.far (p:=⟨w.heap.size + 1,3,none⟩) (by simp) _,HWt.out,HB.out.setCell (p:=⟨w.heap.size + 1,3,none⟩) (by simp) _⟩⟩
                  | exact ⟨by rw [HP.out];go_num,by rw [HU.out];exact ⟨H2.out.far (p:=⟨w.heap.size + 1,3,none⟩) (by simp) _,HWf.out,HB.out.setCell (p:=⟨w.heap.size + 1,3,none⟩) (by simp) _⟩⟩
              · have hp3:=HP3.out
                rw [hsg] at hp3
                simp only [if_true,if_false,Bool.false_eq_true] at hp3
                have HP:=Lib.hid hp3
                have HU:=Lib.hid hun
                have HG:=Lib.hid hsg
                have hb1:=fun h=>bget s (p2 s + 1) h
                have hnn:(((p2 s:Nat):Int) + 1).toNat = p2 s + 1:=by omega
                have hIl:p2 s + 1 < s.length → ((p2 s:Nat):Int) + 1 < ((s.length:Nat):Int):=fun h=>by omega
                obtain ⟨b2,b4,hB⟩:=HD.out
                have HB:=Lib.hid hB
                have H2:=Lib.hid b2
                have HWt:=Lib.hid (b4.set1 3 (.bool true))
                have HWf:=Lib.hid (b4.set1 3 (.bool false))
                have H4:=Lib.hid b4
                have x3:=b4.cell 3
                have y3:=b4.frozen 3
                clear hp3 hun hB b2 b4
                try (have hb2:=hb1 h)
                try (have hI2:=hIl h)
                clear hb1 hIl
                rw [hsg]
                clear hsg
                go_wp2_with fail
                go_meet
                first
                  | exact ⟨by rw [HP.out];go_num,by rw [HU.out];exact ⟨H2.out,H4.out,HB.out⟩⟩
                  | exact ⟨by rw [HP.out];go_num,by rw [HU.out];exact ⟨H2.out.far (p:=⟨w.heap.size + 1,3,none⟩) (by simp) _,HWt.out,HB.out.setCell (p:=⟨w.heap.size + 1,3,none⟩) (by simp) _⟩⟩
                  | exact ⟨by rw [HP.out];go_num,by rw [HU.out];exact ⟨H2.out.far (p:=⟨w.heap.size + 1,3,none⟩) (by simp) _,HWf.out,HB.out.setCell (p:=⟨w.heap.size + 1,3,none⟩) (by simp) _⟩⟩
              · have hp3:=HP3.out
                rw [hsg] at hp3
                simp only [if_true,if_false,Bool.false_eq_true] at hp3
                have HP:=Lib.hid hp3
                have HU:=Lib.hid hun
                have HG:=Lib.hid hsg
                have hb1:=fun h=>bget s (p2 s + 1) h
                have hnn:(((p2 s:Nat):Int) + 1).toNat = p2 s + 1:=by omega
                have hIl:p2 s + 1 < s.length → ((p2 s:Nat):Int) + 1 < ((s.length:Nat):Int):=fun h=>by omega
                obtain ⟨b2,b4,hB⟩:=HD.out
                have HB:=Lib.hid hB
                have H2:=Lib.hid b2
                have HWt:=Lib.hid (b4.set1 3 (.bool true))
                have HWf:=Lib.hid (b4.set1 3 (.bool false))
                have H4:=Lib.hid b4
                have x3:=b4.cell 3
                have y3:=b4.frozen 3
                clear hp3 hun hB b2 b4
                try (have hb2:=hb1 h)
                try (have hI2:=hIl h)
                clear hb1 hIl
                rw [hsg]
                clear hsg
                go_wp2_with fail
                go_meet
                first
                  | exact ⟨by rw [HP.out];go_num,by rw [HU.out];exact ⟨H2.out,H4.out,HB.out⟩⟩
                  | exact ⟨by rw [HP.out];go_num,by rw [HU.out];exact ⟨H2.out.far (p:=⟨w.heap.size + 1,3,none⟩) (by simp) _,HWt.out,HB.out.setCell (p:=⟨w.heap.size + 1,3,none⟩) (by simp) _⟩⟩
                  | exact ⟨by rw [HP.out];go_num,by rw [HU.out];exact ⟨H2.out.far (p:=⟨w.heap.size + 1,3,none⟩) (by simp) _,HWf.out,HB.out.setCell (p:=⟨w.heap.size + 1,3,none⟩) (by simp) _⟩⟩
              · have hp3:=HP3.out
                rw [hsg] at hp3
                simp only [if_true,if_false,Bool.false_eq_true] at hp3
                have HP:=Lib.hid hp3
                have HU:=Lib.hid hun
                have HG:=Lib.hid hsg
                have hb1:=fun h=>bget s (p2 s + 1) h
                have hnn:(((p2 s:Nat):Int) + 1).toNat = p2 s + 1:=by omega
                have hIl:p2 s + 1 < s.length → ((p2 s:Nat):Int) + 1 < ((s.length:Nat):Int):=fun h=>by omega
                obtain ⟨b2,b4,hB⟩:=HD.out
                have HB:=Lib.hid hB
                have H2:=Lib.hid b2
                have HWt:=Lib.hid (b4.set1 3 (.bool true))
                have HWf:=Lib.hid (b4.set1 3 (.bool false))
                have H4:=Lib.hid b4
                have x3:=b4.cell 3
                have y3:=b4.frozen 3
                clear hp3 hun hB b2 b4
                try (have hb2:=hb1 h)
                try (have hI2:=hIl h)
                clear hb1 hIl
                rw [hsg]
                clear hsg
                go_wp2_with fail
                go_meet
                first
                  | exact ⟨by rw [HP.out];go_num,by rw [HU.out];exact ⟨H2.out,H4.out,HB.out⟩⟩
                  | exact ⟨by rw [HP.out];go_num,by rw [HU.out];exact ⟨H2.out.far (p:=⟨w.heap.size + 1,3,none⟩) (by simp) _,HWt.out,HB.out.setCell (p:=⟨w.heap.size + 1,3,none⟩) (by simp) _⟩⟩
                  | exact ⟨by rw [HP.out];go_num,by rw [HU.out];exact ⟨H2.out.far (p:=⟨w.heap.size + 1,3,none⟩) (by simp) _,HWf.out,HB.out.setCell (p:=⟨w.heap.size + 1,3,none⟩) (by simp) _⟩⟩
            case rest =>
              obtain ⟨rfl,hd5⟩:=hcut
              have HD5:=Lib.hid hd5
              have hp3l:((p3 s:Nat):Int) ≤ ((s.length:Nat):Int):=by have:=HPL.out;omega
              clear hd5
              go_wp2_with fail
              go_loop [5] (fun v=>∃ k:Nat,v = .int .i64 (k:Int) ∧ p3 s ≤ k ∧ k ≤ ov s (p3 s) ∧ k ≤ s.length) (fun v=>s.length - (intOf v).toNat)
              case atStart=>exact ⟨p3 s,rfl,Nat.le_refl _,ov_ge _ _,HPL.out⟩
              case round =>
                obtain ⟨k,rfl,hk1,hk2,hk3⟩:=hrel
                have hkl:((k:Nat):Int) ≤ ((s.length:Nat):Int):=by omega
                cases hdk:dAt s k with
                | true =>
                  have hlk:=dAt_lt hdk
                  have u1:decide (((k:Nat):Int) < ((s.length:Nat):Int)) = true:=by simp;omega
                  have u2:decide (k < s.length) = true:=by simpa using hlk
                  have hbk:=bget s k hlk
                  have HDG:=Lib.hid (fun W=>digit_at s k hlk W)
                  rw [hdk] at HDG
                  have HN:=Lib.hid (show k + 1 ≤ ov s (p3 s) by
                    have e1:=ov_ov (s:=s) hk1 hk2
                    have e2:=ov_at hdk
                    omega)
                  have HKA:=Lib.hid (show p3 s ≤ k + 1 ∧ k + 1 ≤ s.length from ⟨by omega,hlk⟩)
                  have hki:((k:Nat):Int) < ((s.length:Nat):Int):=by omega
                  have HM:=Lib.hid hlk
                  clear hk1 hk2 hk3 hdk
                  go_wp2_with fail
                  refine (HDG.out _).mono ?_
                  rintro e w' ⟨rfl,rfl⟩
                  go_wp2_with fail
                  go_round
                  case rel=>exact ⟨k + 1,by go_num,HKA.out.1,HN.out,HKA.out.2⟩
                  case measure=>have:=HM.out;simp [intOf];omega
                | false =>
                  have hov:ov s (p3 s) = k:=by rw [← ov_ov hk1 hk2,ov_no hdk]
                  have hw3:k = p3 s → wrongP s = some k:=fun h=>by
                    unfold wrongP
                    rw [if_neg (by simp [H0.out]),if_neg (fun h=>by have:=H1.out h.1;rw [this] at h;cases h.2),if_pos ⟨HE0.out,by rw [← h];exact hdk⟩,h]
                  have hd3:k ≠ p3 s → dAt s (p3 s) = true:=fun h=>dAt_mid (Nat.le_refl _) (by omega)
                  have hp4:p4 s = k:=by unfold p4;rw [HE0.out,if_pos rfl];exact hov
                  have hw4:k ≠ p3 s → k < s.length → wrongP s = some k:=fun h h'=>by
                    unfold wrongP
                    rw [if_neg (by simp [H0.out]),if_neg (fun h=>by have:=H1.out h.1;rw [this] at h;cases h.2),if_neg (fun x=>by rw [hd3 h] at x;cases x.2),hp4,if_pos h']
                  have hlv:k ≠ p3 s → k = s.length → litV s = .tuple #[.agg #[.bool (negP s),sv (wholeP s),sv (behindP s),.bool (underP s),sv (cutL s (p3 s) k)],.int .i64 (-1)]:=fun h h'=>by
                    have hw:wrongP s = none:=by
                      unfold wrongP
                      rw [if_neg (by simp [H0.out]),if_neg (fun h=>by have:=H1.out h.1;rw [this] at h;cases h.2),if_neg (fun x=>by rw [hd3 h] at x;cases x.2),hp4,if_neg (by omega)]
                    unfold litV expP
                    rw [hw,HE0.out,hp4];rfl
                  have hpk:((p3 s:Nat):Int) ≤ ((k:Nat):Int):=by omega
                  have hstop:(decide (((k:Nat):Int) < ((s.length:Nat):Int)) = false ∧ decide (k < s.length) = false ∧ k = s.length) ∨ (decide (((k:Nat):Int) < ((s.length:Nat):Int)) = true ∧ decide (k < s.length) = true ∧ k < s.length):=by
                    rcases Nat.lt_or_ge k s.length with h | h
                    · right;exact ⟨by simp;omega,by simpa using h,h⟩
                    · left;exact ⟨by simp;omega,by simpa using h,by omega⟩
                  have HW3:=Lib.hid hw3
                  have HW4:=Lib.hid hw4
                  have HLV:=Lib.hid hlv
                  obtain ⟨b2,b4,hB⟩:=HD5.out
                  have HB:=Lib.hid hB
                  have H2:=Lib.hid b2
                  have H4:=Lib.hid (b4.set1 4 (sv (cutL s (p3 s) k)))
                  have x4:=b4.cell 4
                  have y4:=b4.frozen 4
                  have HDK:=Lib.hid hdk
                  clear hw3 hd3 hp4 hw4 hlv hov hk1 hk2 hk3 hB b2 b4 hdk
                  have hx:=ext_cut s (p3 s) k
                  have hsplit:((((k:Nat):Int) == ((p3 s:Nat):Int)) = true ∧ k = p3 s) ∨ ((((k:Nat):Int) == ((p3 s:Nat):Int)) = false ∧ k ≠ p3 s):=by
                    by_cases h:k = p3 s
                    · left;exact ⟨by rw [h];simp,h⟩
                    · right;exact ⟨by simp;omega,h⟩
                  rcases hsplit with ⟨v1,hkp⟩ | ⟨v1,hkp⟩
                  · have HKP:=Lib.hid hkp
                    clear hkp
                    rcases hstop with ⟨u1,u2,hkk⟩ | ⟨u1,u2,hkk⟩
                    · clear hkk
                      go_wp2_with fail
                      go_step3
                      exact ⟨⟨_,rfl⟩,RJ.wrong (c0:=negP s) (c1:=wholeP s) (c2:=behindP s) (c3:=underP s) (c4:=cutL s (p3 s) k) (HW3.out HKP.out) (RF.mk rfl rfl rfl rfl rfl rfl rfl) ⟨H2.out.far (p:=⟨w.heap.size + 1,4,none⟩) (by simp) _,H4.out,HB.out.setCell (p:=⟨w.heap.size + 1,4,none⟩) (by simp) _⟩,by decide⟩
                    · have hbk:=bget s k hkk
                      have HDG:=Lib.hid (fun W=>digit_at s k hkk W)
                      rw [HDK.out] at HDG
                      have hki:((k:Nat):Int) < ((s.length:Nat):Int):=by omega
                      go_wp2_with fail
                      refine (HDG.out _).mono ?_
                      rintro e w' ⟨rfl,rfl⟩
                      go_wp2_with fail
                      go_step3
                      exact ⟨⟨_,rfl⟩,RJ.wrong (c0:=negP s) (c1:=wholeP s) (c2:=behindP s) (c3:=underP s) (c4:=cutL s (p3 s) k) (HW3.out HKP.out) (RF.mk rfl rfl rfl rfl rfl rfl rfl) ⟨H2.out.far (p:=⟨w.heap.size + 1,4,none⟩) (by simp) _,H4.out,HB.out.setCell (p:=⟨w.heap.size + 1,4,none⟩) (by simp) _⟩,by decide⟩
                  · have HKP:=Lib.hid hkp
                    clear hkp
                    rcases hstop with ⟨u1,u2,hkk⟩ | ⟨u1,u2,hkk⟩
                    · have HKK:=Lib.hid hkk
                      have hb2:=H2.out.far (p:=⟨w.heap.size + 1,4,none⟩) (by simp) (sv (cutL s (p3 s) k))
                      have hb4:=H4.out
                      have HE:=Lib.hid (((((hb2.set1 0 (.bool (negP s))).set1 1 (sv (wholeP s))).set1 2 (sv (behindP s))).set1 3 (.bool (underP s))).set1 4 (sv (cutL s (p3 s) k)))
                      have d0:=hb2.cell 0
                      have d1:=hb2.cell 1
                      have d2:=hb2.cell 2
                      have d3:=hb2.cell 3
                      have d4:=hb2.cell 4
                      have f0:=hb2.frozen 0
                      have f1:=hb2.frozen 1
                      have f2:=hb2.frozen 2
                      have f3:=hb2.frozen 3
                      have f4:=hb2.frozen 4
                      have z0:=hb4.cell 0
                      have z1:=hb4.cell 1
                      have z2:=hb4.cell 2
                      have z3:=hb4.cell 3
                      have z4:=hb4.cell 4
                      clear hkk hb2 hb4
                      go_wp2_with fail
                      have e0:=HE.out.cell 0
                      have e1:=HE.out.cell 1
                      have e2:=HE.out.cell 2
                      have e3:=HE.out.cell 3
                      have e4:=HE.out.cell 4
                      exact bodyPost_ret (v:=.tuple #[.agg #[.bool (negP s),sv (wholeP s),sv (behindP s),.bool (underP s),sv (cutL s (p3 s) k)],.int .i64 (-1)]) (by simp [results,Tryz.results96,go_sem,e0,e1,e2,e3,e4]) rfl ⟨by rw [HLV.out HKP.out HKK.out],((((((HB.out.setCell (p:=⟨w.heap.size + 1,4,none⟩) (by simp) _).setCell (p:=⟨w.heap.size,0,none⟩) (Nat.le_refl _) _).setCell (p:=⟨w.heap.size,1,none⟩) (Nat.le_refl _) _).setCell (p:=⟨w.heap.size,2,none⟩) (Nat.le_refl _) _).setCell (p:=⟨w.heap.size,3,none⟩) (Nat.le_refl _) _).setCell (p:=⟨w.heap.size,4,none⟩) (Nat.le_refl _) _)⟩
                    · have hbk:=bget s k hkk
                      have HDG:=Lib.hid (fun W=>digit_at s k hkk W)
                      rw [HDK.out] at HDG
                      have hki:((k:Nat):Int) < ((s.length:Nat):Int):=by omega
                      go_wp2_with fail
                      refine (HDG.out _).mono ?_
                      rintro e w' ⟨rfl,rfl⟩
                      go_wp2_with fail
                      go_step3
                      exact ⟨⟨_,rfl⟩,RJ.wrong (c0:=negP s) (c1:=wholeP s) (c2:=behindP s) (c3:=underP s) (c4:=cutL s (p3 s) k) (HW4.out HKP.out hkk) (RF.mk rfl rfl rfl rfl rfl rfl rfl) ⟨H2.out.far (p:=⟨w.heap.size + 1,4,none⟩) (by simp) _,H4.out,HB.out.setCell (p:=⟨w.heap.size + 1,4,none⟩) (by simp) _⟩,by decide⟩
      · have heq:p2 s = s.length:=by omega
        have hE:hasE s = false:=by
          cases h:hasE s with
          | false=>rfl
          | true=>have:=hasE_lt h;omega
        have HW:Go.RowKit.Hid (litV s = .tuple #[.agg #[.bool (negP s),sv (wholeP s),sv (behindP s),.bool false,sv []],.int .i64 (-1)]):=Lib.hid (by
          have hw:wrongP s = none:=by
            unfold wrongP
            rw [if_neg (by simp [h0]),if_neg (fun h=>by have:=h1 h.1;rw [this] at h;cases h.2),if_neg (by simp [hE]),if_neg (by unfold p4;simp [hE];omega)]
          unfold litV underP expP
          rw [hw,hE];rfl)
        have t1:(((p2 s:Nat):Int) == ((s.length:Nat):Int)) = true:=by simp [heq]
        have HB:=Lib.hid HD.out.2.2
        obtain ⟨b2,b4,_⟩:=HD.out
        generalize p2 s = i at *
        generalize negP s = g at *
        generalize wholeP s = wh at *
        generalize behindP s = be at *
        clear hE hle hge h0 h1
        have d0:=b2.cell 0
        have d1:=b2.cell 1
        have d2:=b2.cell 2
        have d3:=b2.cell 3
        have d4:=b2.cell 4
        have f0:=b2.frozen 0
        have f1:=b2.frozen 1
        have f2:=b2.frozen 2
        have f3:=b2.frozen 3
        have f4:=b2.frozen 4
        have e0:=b4.cell 0
        have e1:=b4.cell 1
        have e2:=b4.cell 2
        have e3:=b4.cell 3
        have e4:=b4.cell 4
        have HE:=Lib.hid (((((b2.set1 0 (.bool g)).set1 1 (sv wh)).set1 2 (sv be)).set1 3 (.bool false)).set1 4 (sv []))
        have HEQ:=Lib.hid heq
        clear b2 b4 heq
        go_wp2_with fail
        have e0:=HE.out.cell 0
        have e1:=HE.out.cell 1
        have e2:=HE.out.cell 2
        have e3:=HE.out.cell 3
        have e4:=HE.out.cell 4
        refine (?_:bodyPost Tryz.prog Tryz.f96 (fun e w'=>e = .returned (litV s) ∧ Below w.heap.size w w') .ret _ _)
        exact bodyPost_ret (v:=.tuple #[.agg #[.bool g,sv wh,sv be,.bool false,sv []],.int .i64 (-1)]) (by simp [results,Tryz.results96,go_sem,e0,e1,e2,e3,e4]) rfl ⟨by rw [HW.out],(((((HB.out.setCell (p:=⟨w.heap.size,0,none⟩) (Nat.le_refl _) _).setCell (p:=⟨w.heap.size,1,none⟩) (Nat.le_refl _) _).setCell (p:=⟨w.heap.size,2,none⟩) (Nat.le_refl _) _).setCell (p:=⟨w.heap.size,3,none⟩) (Nat.le_refl _) _).setCell (p:=⟨w.heap.size,4,none⟩) (Nat.le_refl _) _)⟩
end Go.Proofs.YtgmholdkdppbmaaGreatDoor

namespace Go.Proofs.YtgmholdkdppbmaaGreatDoor
def P52:Nat:=4503599627370496
def Fl (b:Nat):Nat:=if b < P52 then b else (P52 + b % P52) * 2 ^ (b / P52 - 1)
theorem Fl_at {j m:Nat} (h:j = 0 ∨ P52 ≤ m) (hm:m < 2 * P52):Fl (j * P52 + m) = m * 2 ^ j:=by
  have hp:0 < P52:=by unfold P52;omega
  rcases Nat.lt_or_ge m P52 with h1 | h1
  · obtain rfl:j = 0:=by omega
    unfold Fl
    rw [if_pos (by omega)];simp
  · have e1:j * P52 + m = (m - P52) + P52 * (j + 1):=by rw [Nat.mul_add,Nat.mul_comm P52 j];omega
    have e2:¬ j * P52 + m < P52:=by omega
    unfold Fl
    rw [if_neg e2,e1,Nat.add_mul_mod_self_left,Nat.mod_eq_of_lt (by omega),Nat.add_mul_div_left _ _ hp,Nat.div_eq_of_lt (by omega)]
    rw [show P52 + (m - P52) = m by omega,show 0 + (j + 1) - 1 = j by omega]
theorem Fl_next {j m:Nat} (h:j = 0 ∨ P52 ≤ m) (hm:m < 2 * P52):Fl (j * P52 + m + 1) = (m + 1) * 2 ^ j:=by
  rcases Nat.lt_or_ge (m + 1) (2 * P52) with h1 | h1
  · have:=Fl_at (j:=j) (m:=m + 1) (by omega) h1
    rwa [← Nat.add_assoc] at this
  · have e:m + 1 = 2 * P52:=by omega
    have e2:j * P52 + m + 1 = (j + 1) * P52 + P52:=by rw [Nat.add_mul];omega
    rw [e2,Fl_at (.inr (Nat.le_refl _)) (by unfold P52;omega),e,Nat.pow_succ,Nat.mul_comm 2 P52,Nat.mul_assoc,Nat.mul_comm 2 (2 ^ j)]
theorem Fl_form (b:Nat):∃ j m,b = j * P52 + m ∧ (j = 0 ∨ P52 ≤ m) ∧ m < 2 * P52:=by
  have hp:0 < P52:=by unfold P52;omega
  rcases Nat.lt_or_ge b P52 with h | h
  · exact ⟨0,b,by omega,.inl rfl,by omega⟩
  · have h1:=Nat.div_add_mod b P52
    have h2:=Nat.mod_lt b hp
    have h3:1 ≤ b / P52:=(Nat.le_div_iff_mul_le hp).2 (by omega)
    refine ⟨b / P52 - 1,P52 + b % P52,?_,.inr (by omega),by omega⟩
    obtain ⟨k,hk⟩:∃ k,b / P52 = k + 1:=⟨b / P52 - 1,by omega⟩
    rw [hk] at h1 ⊢
    rw [Nat.mul_add,Nat.mul_comm P52 k] at h1
    simp only [Nat.add_sub_cancel]
    omega
theorem Fl_up (b:Nat):Fl b < Fl (b + 1):=by
  obtain ⟨j,m,rfl,h1,h2⟩:=Fl_form b
  rw [Fl_at h1 h2,Fl_next h1 h2]
  exact Nat.mul_lt_mul_of_pos_right (by omega) (Nat.pow_pos (by omega))
theorem Fl_add (b k:Nat):Fl b + k ≤ Fl (b + k):=by
  induction k with
  | zero=>exact Nat.le_refl _
  | succ k ih =>
    have:=Fl_up (b + k)
    show Fl b + (k + 1) ≤ Fl (b + k + 1)
    omega
theorem Fl_lt {a b:Nat}:Fl a < Fl b ↔ a < b:=by
  constructor
  · intro h
    rcases Nat.lt_or_ge a b with h1 | h1
    · exact h1
    · obtain ⟨k,rfl⟩:=Nat.exists_eq_add_of_le h1
      have:=Fl_add b k
      omega
  · intro h
    obtain ⟨k,rfl⟩:=Nat.exists_eq_add_of_lt h
    have:=Fl_add a (k + 1)
    rw [Nat.add_assoc]
    omega
theorem Fl_le {a b:Nat}:Fl a ≤ Fl b ↔ a ≤ b:=by
  have:=Fl_lt (a:=b) (b:=a)
  omega
def flT (T:Nat):Nat:=(blen T - 53) * P52 + T / 2 ^ (blen T - 53)
theorem flT_m (T:Nat):(blen T - 53 = 0 ∨ P52 ≤ T / 2 ^ (blen T - 53)) ∧ T / 2 ^ (blen T - 53) < 2 * P52:=by
  have hb:=blen_div T (blen T - 53)
  have h53:2 * P52 = 2 ^ 53:=by decide
  rw [h53,← blen_le,hb]
  refine ⟨?_,by omega⟩
  rcases Nat.lt_or_ge 53 (blen T) with h | h
  · right
    have h1:blen (T / 2 ^ (blen T - 53)) = 53:=by omega
    have h2:=blen_ge (x:=T / 2 ^ (blen T - 53)) (by intro h0;rw [h0] at h1;simp [blen_zero] at h1)
    rw [h1] at h2
    exact h2
  · left;omega
theorem flT_le (T:Nat):Fl (flT T) ≤ T:=by
  unfold flT
  rw [Fl_at (flT_m T).1 (flT_m T).2]
  exact Nat.div_mul_le_self _ _
theorem flT_lt (T:Nat):T < Fl (flT T + 1):=by
  unfold flT
  rw [Fl_next (flT_m T).1 (flT_m T).2]
  have h:=Nat.lt_mul_div_succ T (show 0 < 2 ^ (blen T - 53) from Nat.pow_pos (by omega))
  rwa [Nat.mul_comm] at h
theorem flT_iff {b T:Nat}:b ≤ flT T ↔ Fl b ≤ T:=by
  constructor
  · intro h
    exact Nat.le_trans (Fl_le.2 h) (flT_le T)
  · intro h
    have h1:Fl b < Fl (flT T + 1):=Nat.lt_of_le_of_lt h (flT_lt T)
    rw [Fl_lt] at h1
    omega
def most:Nat:=9218868437227405311
def cutB (A B:Nat):Nat:=min (flT (A * 2 ^ 1074 / B)) most
def cutP (A B:Nat):Nat × Int × Bool :=
  (cutB A B,cmpI (2 * (A * 2 ^ 1074)) ((Fl (cutB A B) + Fl (cutB A B + 1)) * B),decide (Fl (cutB A B) * B = A * 2 ^ 1074))
theorem cmpI_lt {a b:Nat} (h:a < b):cmpI a b = -1:=by unfold cmpI;rw [if_neg (by omega),if_pos h]
theorem cmpI_gt {a b:Nat} (h:b < a):cmpI a b = 1:=by unfold cmpI;rw [if_neg (by omega),if_neg (by omega)]
theorem cmpI_eq (a:Nat):cmpI a a = 0:=by unfold cmpI;rw [if_pos rfl]
theorem cmpI_mul {a b c:Nat} (hc:0 < c):cmpI (a * c) (b * c) = cmpI a b:=by
  rcases Nat.lt_trichotomy a b with h | h | h
  · rw [cmpI_lt h,cmpI_lt (Nat.mul_lt_mul_of_pos_right h hc)]
  · rw [h,cmpI_eq,cmpI_eq]
  · rw [cmpI_gt h,cmpI_gt (Nat.mul_lt_mul_of_pos_right h hc)]
theorem cmpI_tri (a b:Nat):a < b ∧ cmpI a b = -1 ∨ a = b ∧ cmpI a b = 0 ∨ b < a ∧ cmpI a b = 1:=by
  rcases Nat.lt_trichotomy a b with h | h | h
  · exact .inl ⟨h,cmpI_lt h⟩
  · exact .inr (.inl ⟨h,by rw [h,cmpI_eq]⟩)
  · exact .inr (.inr ⟨h,cmpI_gt h⟩)
theorem cmpI_range (a b:Nat):cmpI a b = -1 ∨ cmpI a b = 0 ∨ cmpI a b = 1:=by
  rcases cmpI_tri a b with ⟨_,h⟩ | ⟨_,h⟩ | ⟨_,h⟩ <;> rw [h] <;> decide
set_option maxRecDepth 20000 in
theorem ratio_law {A B u1 u2 K j q r:Nat} (hB:0 < B) (hq:q = A * 2 ^ u1 / (B * 2 ^ u2)) (hr:r = A * 2 ^ u1 % (B * 2 ^ u2)) (hK:0 < K) (hKj:K + u2 + 1074 = j + u1)
    (hj:blen q ≤ K + 53 ∧ j = 0 ∨ blen q = K + 53) :
    flT (A * 2 ^ 1074 / B) = j * P52 + q / 2 ^ K ∧ (j = 0 ∨ P52 ≤ q / 2 ^ K) ∧ q / 2 ^ K < 2 * P52 ∧
    cmpI (2 * (A * 2 ^ 1074)) ((2 * (q / 2 ^ K) + 1) * 2 ^ j * B) = (if q / 2 ^ (K - 1) % 2 = 1 then (if q % 2 ^ (K - 1) ≠ 0 ∨ r ≠ 0 then 1 else 0) else -1) ∧
    (q / 2 ^ K * 2 ^ j * B = A * 2 ^ 1074 ↔ q % 2 ^ K = 0 ∧ r = 0):=by
  generalize (1074:Nat) = N at *
  have p:∀ k,0 < 2 ^ k:=fun k=>Nat.pow_pos (by omega)
  have hd:0 < B * 2 ^ u2:=Nat.mul_pos hB (p _)
  have hpow:2 ^ K * 2 ^ u2 * 2 ^ N = 2 ^ j * 2 ^ u1:=by rw [← Nat.pow_add,← Nat.pow_add,← Nat.pow_add,hKj]
  generalize hX:2 ^ N = X at *
  have hXp:0 < X:=by rw [← hX];exact p _
  have hm:q / 2 ^ K = A * X / B / 2 ^ j:=by
    rw [hq,Nat.div_div_eq_div_mul,Nat.div_div_eq_div_mul]
    rw [← Nat.mul_div_mul_right (A * 2 ^ u1) (B * 2 ^ u2 * 2 ^ K) hXp,← Nat.mul_div_mul_right (A * X) (B * 2 ^ j) (p u1)]
    congr 1
    · rw [Nat.mul_assoc,Nat.mul_assoc,Nat.mul_comm X]
    · rw [Nat.mul_assoc B,Nat.mul_assoc B,Nat.mul_assoc B,← hpow,Nat.mul_comm (2 ^ u2)]
  have hbm:=blen_div q K
  have hbT:=blen_div (A * X / B) j
  rw [← hm,hbm] at hbT
  have hjT:blen (A * X / B) - 53 = j:=by omega
  have hT:=flT_m (A * X / B)
  rw [hjT,← hm] at hT
  refine ⟨by unfold flT;rw [hjT,← hm],hT.1,hT.2,?_,?_⟩
  · have hn:=Nat.div_add_mod (A * 2 ^ u1) (B * 2 ^ u2)
    rw [← hq,← hr] at hn
    have hrl:r < B * 2 ^ u2:=by rw [hr];exact Nat.mod_lt _ hd
    obtain ⟨k,rfl⟩:∃ k,K = k + 1:=⟨K - 1,by omega⟩
    rw [Nat.add_sub_cancel]
    rw [← cmpI_mul (p u1),Nat.mul_assoc 2,show A * X * 2 ^ u1 = A * 2 ^ u1 * X by rw [Nat.mul_assoc,Nat.mul_assoc,Nat.mul_comm X],← hn]
    rw [show (2 * (q / 2 ^ (k + 1)) + 1) * 2 ^ j * B * 2 ^ u1 = (2 * (q / 2 ^ (k + 1)) + 1) * 2 ^ (k + 1) * (B * 2 ^ u2) * X by
      rw [Nat.mul_assoc,Nat.mul_assoc,Nat.mul_comm B,← Nat.mul_assoc (2 ^ j),← hpow]
      simp only [Nat.mul_comm,Nat.mul_left_comm,Nat.mul_assoc]]
    rw [← Nat.mul_assoc,cmpI_mul hXp]
    generalize B * 2 ^ u2 = d at *
    have h1:q / 2 ^ (k + 1) = q / 2 ^ k / 2:=by rw [Nat.pow_succ,Nat.div_div_eq_div_mul]
    have h2:=Nat.div_add_mod q (2 ^ k)
    have h3:=Nat.mod_lt q (p k)
    have h4:=Nat.div_add_mod (q / 2 ^ k) 2
    have hbl:=Nat.mod_lt (q / 2 ^ k) (show 2 > 0 by omega)
    rw [h1,Nat.pow_succ]
    have hP:=p k
    generalize 2 ^ k = P at *
    generalize q % P = s at *
    generalize q / P % 2 = b at *
    generalize q / P / 2 = m at *
    rw [← h4] at h2
    have h5:2 * (d * q + r) = (2 * m + 1) * (P * 2) * d + (2 * (s * d) + 2 * r + 2 * (b * P * d)) - 2 * (P * d) ∧ 2 * (P * d) ≤ (2 * m + 1) * (P * 2) * d + (2 * (s * d) + 2 * r + 2 * (b * P * d)):=by
      have e:d * q = 2 * (m * P * d) + b * P * d + s * d:=by
        rw [← h2]
        simp only [Nat.mul_add,Nat.mul_comm,Nat.mul_left_comm,Nat.mul_assoc]
      have e2:(2 * m + 1) * (P * 2) * d = 4 * (m * P * d) + 2 * (P * d):=by
        rw [show (4:Nat) = 2 * 2 from rfl]
        simp only [Nat.mul_add,Nat.add_mul,Nat.mul_comm,Nat.mul_left_comm,Nat.mul_assoc,Nat.one_mul,Nat.mul_one]
      omega
    have hb:b = 0 ∨ b = 1:=by omega
    rcases hb with rfl | rfl
    · rw [if_neg (by decide)]
      have h6:(s + 1) * d ≤ P * d:=Nat.mul_le_mul_right _ (by omega)
      rw [Nat.add_mul] at h6
      simp only [Nat.zero_mul,Nat.mul_zero,Nat.add_zero,Nat.one_mul] at h5 h6
      exact cmpI_lt (by omega)
    · rw [if_pos rfl]
      rw [Nat.one_mul] at h5
      by_cases hz:s ≠ 0 ∨ r ≠ 0
      · rw [if_pos hz]
        have h7:s ≠ 0 → 0 < s * d:=fun h=>Nat.mul_pos (by omega) (by omega)
        exact cmpI_gt (by omega)
      · rw [if_neg hz]
        have hs:s = 0:=by omega
        have hr0:r = 0:=by omega
        subst hs
        rw [hr0] at h5 ⊢
        rw [Nat.zero_mul] at h5
        rw [show 2 * (d * q + 0) = (2 * m + 1) * (P * 2) * d by omega,cmpI_eq]
  · have hn:=Nat.div_add_mod (A * 2 ^ u1) (B * 2 ^ u2)
    rw [← hq,← hr] at hn
    have h1:q / 2 ^ K * 2 ^ j * B = A * X ↔ q / 2 ^ K * 2 ^ K * (B * 2 ^ u2) = A * 2 ^ u1:=by
      rw [← Nat.mul_left_inj (Nat.pos_iff_ne_zero.1 (p u1)),← Nat.mul_left_inj (Nat.pos_iff_ne_zero.1 hXp) (b:=q / 2 ^ K * 2 ^ K * (B * 2 ^ u2))]
      rw [show q / 2 ^ K * 2 ^ j * B * 2 ^ u1 = q / 2 ^ K * 2 ^ K * (B * 2 ^ u2) * X by
        rw [Nat.mul_assoc,Nat.mul_assoc,Nat.mul_comm B,← Nat.mul_assoc (2 ^ j),← hpow]
        simp only [Nat.mul_comm,Nat.mul_left_comm,Nat.mul_assoc],show A * X * 2 ^ u1 = A * 2 ^ u1 * X by rw [Nat.mul_assoc,Nat.mul_assoc,Nat.mul_comm X]]
    rw [h1,← hn]
    have h2:=Nat.div_add_mod q (2 ^ K)
    generalize B * 2 ^ u2 = d at *
    generalize 2 ^ K = P at *
    rw [Nat.mul_comm (q / P) P]
    generalize P * (q / P) = m at *
    generalize q % P = s at *
    rw [← h2,Nat.mul_comm d,Nat.add_mul]
    constructor
    · intro h
      have h3:s * d = 0 ∧ r = 0:=by omega
      refine ⟨?_,h3.2⟩
      rcases Nat.mul_eq_zero.1 h3.1 with h | h <;> omega
    · rintro ⟨rfl,rfl⟩
      omega
theorem cutP_over {A B:Nat} (hB:0 < B) (h:most < flT (A * 2 ^ 1074 / B)):cutP A B = (most,1,false):=by
  have hb:cutB A B = most:=by unfold cutB;omega
  have h1:Fl (most + 1) ≤ A * 2 ^ 1074 / B:=flT_iff.1 h
  rw [Nat.le_div_iff_mul_le hB] at h1
  have h2:=Nat.mul_lt_mul_of_pos_right (Fl_up most) hB
  unfold cutP
  rw [hb]
  generalize A * 2 ^ 1074 = N at *
  rw [Nat.add_mul,cmpI_gt (by omega),decide_eq_false (by omega)]
theorem cutP_at {A B j m:Nat} (h:flT (A * 2 ^ 1074 / B) = j * P52 + m) (hj:j = 0 ∨ P52 ≤ m) (hm:m < 2 * P52) (hl:j * P52 + m ≤ most) :
    cutP A B = (j * P52 + m,cmpI (2 * (A * 2 ^ 1074)) ((2 * m + 1) * 2 ^ j * B),decide (m * 2 ^ j * B = A * 2 ^ 1074)):=by
  have hb:cutB A B = j * P52 + m:=by unfold cutB;omega
  unfold cutP
  rw [hb,Fl_at hj hm,Fl_next hj hm]
  rw [show m * 2 ^ j + (m + 1) * 2 ^ j = (2 * m + 1) * 2 ^ j by rw [← Nat.add_mul];congr 1;omega]
end Go.Proofs.YtgmholdkdppbmaaGreatDoor
namespace Go.Proofs.YtgmholdkdppbmaaGreatDoor
open Go.RowKit
def fltM (b:Nat):Nat:=if b / 4503599627370496 = 0 then b % 4503599627370496 else b % 4503599627370496 + 4503599627370496
def fltK (b:Nat):Int:=if b / 4503599627370496 = 0 then -1074 else ((b / 4503599627370496:Nat):Int) - 1075
theorem and_low (a k:Nat) (ha:a < W64) (hk:2 ^ k - 1 < W64):bits .and .u64 (a:Int) ((2 ^ k - 1:Nat):Int) = ((a % 2 ^ k:Nat):Int):=by
  have h:=bits_and_u64_nat a (2 ^ k - 1) ha hk
  rwa [Nat.and_two_pow_sub_one_eq_mod] at h
theorem flt_P52 (b:Nat):b / 4503599627370496 = 0 ↔ b < P52:=by unfold P52;omega
theorem flt_form (b u:Nat) (hu:u = 1074):(fltM b:Nat) * 2 ^ (fltK b + (u:Nat)).toNat = Fl b ∧ ((2 * fltM b + 1) * 2 ^ (fltK b + (u:Nat)).toNat = Fl b + Fl (b + 1)) ∧ -1074 ≤ fltK b ∧ (fltM b = 0 ↔ b = 0):=by
  have hm:=Nat.div_add_mod b P52
  have hlt:b % P52 < P52:=Nat.mod_lt _ (by decide)
  unfold fltM fltK
  by_cases h:b / 4503599627370496 = 0
  · have h':=(flt_P52 b).1 h
    have hb:b % 4503599627370496 = b:=Nat.mod_eq_of_lt (by unfold P52 at h';exact h')
    rw [if_pos h,if_pos h,hb]
    have e:((-1074:Int) + (u:Nat)).toNat = 0:=by omega
    rw [e,Nat.pow_zero,Nat.mul_one,Nat.mul_one]
    have f1:=Fl_at (j:=0) (m:=b) (.inl rfl) (by omega)
    have f2:=Fl_next (j:=0) (m:=b) (.inl rfl) (by omega)
    rw [Nat.zero_mul,Nat.zero_add,Nat.pow_zero,Nat.mul_one] at f1 f2
    exact ⟨f1.symm,by rw [f1,f2];omega,by omega,Iff.rfl⟩
  · have hP:P52 = 4503599627370496:=rfl
    rw [if_neg h,if_neg h,← hP]
    rw [← hP] at h
    obtain ⟨q,hq⟩:∃ q,b / P52 = q + 1:=Nat.exists_eq_succ_of_ne_zero h
    rw [hq]
    have e:(((q + 1:Nat):Int) - 1075 + (u:Nat)).toNat = q:=by omega
    rw [e]
    rw [hq] at hm
    have hb:b = q * P52 + (b % P52 + P52):=by rw [Nat.mul_add,Nat.mul_one,Nat.mul_comm] at hm;omega
    have f1:=Fl_at (j:=q) (m:=b % P52 + P52) (.inr (by omega)) (by omega)
    have f2:=Fl_next (j:=q) (m:=b % P52 + P52) (.inr (by omega)) (by omega)
    rw [← hb] at f1 f2
    refine ⟨f1.symm,?_,by omega,⟨fun h0=>by omega,fun h0=>by subst h0;simp at h⟩⟩
    rw [f1,f2,← Nat.add_mul]
    exact congrArg (· * 2 ^ q) (by omega)
theorem flt_bounds {b:Nat} (hb:b ≤ most):fltM b < 2 ^ 53 ∧ -1074 ≤ fltK b ∧ fltK b ≤ 971:=by
  unfold most at hb
  unfold fltM fltK
  split
  · exact ⟨by omega,by omega,by omega⟩
  · exact ⟨by omega,by omega,by omega⟩
end Go.Proofs.YtgmholdkdppbmaaGreatDoor

namespace Go.Proofs.YtgmholdkdppbmaaGreatDoor
open Go.RowKit
abbrev spotV (no at_:Int):Value:=.iface 95 (.agg #[.int .i64 no,.int .i64 at_])
def dn (s:List UInt8) (i:Nat):Nat:=(s.getD i 0).toNat
theorem dn_get (s:List UInt8) (i:Nat) (h:i < s.length):((⟨s.toArray⟩:ByteArray)[i]'h).toNat = dn s i:=by
  unfold dn;simp [List.getD,h];rfl
theorem isD_dn (s:List UInt8) (i:Nat) (h:i < s.length):isD s[i] = decide (48 ≤ dn s i ∧ dn s i ≤ 57):=by
  unfold isD dn;simp [List.getD,h]
theorem dropZ_val (s:List UInt8):dval (s.dropWhile (· == 48)) = dval s:=by
  induction s with
  | nil=>rfl
  | cons c s ih =>
    by_cases h:c = 48
    · subst h
      rw [List.dropWhile_cons_of_pos (by simp),ih]
      have:=dval_append [48] s
      simp only [List.singleton_append] at this
      rw [this]
      have h0:dval [48] = 0:=rfl
      rw [h0];simp
    · rw [List.dropWhile_cons_of_neg (by simpa using h)]
theorem dropZ_len (s:List UInt8):(s.dropWhile (· == 48)).length ≤ s.length:=(List.dropWhile_sublist _).length_le
theorem dropZ_mem (s:List UInt8):∀ c ∈ s.dropWhile (· == 48),c ∈ s:=fun c hc=>(List.dropWhile_sublist _).subset hc
theorem dropZ_head (s:List UInt8) (h:s.dropWhile (· == 48) ≠ []):(s.dropWhile (· == 48)).getD 0 0 ≠ 48:=by
  induction s with
  | nil=>simp at h
  | cons c s ih =>
    by_cases hc:c = 48
    · subst hc
      rw [List.dropWhile_cons_of_pos (by simp)] at h ⊢
      exact ih h
    · rw [List.dropWhile_cons_of_neg (by simpa using hc)]
      simpa [List.getD] using hc
theorem dval_ge (s:List UInt8) (hd:∀ c ∈ s,isD c = true) (h0:s ≠ []) (h:s.getD 0 0 ≠ 48):10 ^ (s.length - 1) ≤ dval s:=by
  cases s with
  | nil=>exact absurd rfl h0
  | cons c s =>
    have h1:=of_decide_eq_true (hd c (by simp))
    have h2:c ≠ 48:=by simpa [List.getD] using h
    have h3:c.toNat ≠ 48:=fun h=>h2 (UInt8.toNat_inj.1 h)
    have:=dval_append [c] s
    simp only [List.singleton_append] at this
    rw [this]
    have h4:dval [c] = c.toNat - 48:=by simp [dval]
    rw [h4,List.length_cons,Nat.add_sub_cancel]
    have h5:1 * 10 ^ s.length ≤ (c.toNat - 48) * 10 ^ s.length:=Nat.mul_le_mul_right _ (by omega)
    omega
theorem pow_cmp (k:Nat):2 ^ (83 * k) ≤ 10 ^ (25 * k):=by
  rw [Nat.pow_mul,Nat.pow_mul]
  exact Nat.pow_le_pow_left (by decide) k
theorem pow_bits {x n k:Nat} (h:10 ^ n ≤ x) (hn:25 * k ≤ n):83 * k < blen x:=by
  have h1:2 ^ (83 * k) ≤ x:=Nat.le_trans (pow_cmp k) (Nat.le_trans (Nat.pow_le_pow_right (by decide) hn) h)
  rcases Nat.lt_or_ge (83 * k) (blen x) with h2 | h2
  · exact h2
  · have:=blen_le.1 h2
    omega
theorem pow_big {x n:Nat} (h:10 ^ n ≤ x) (hn:2500 ≤ n):¬ blen x ≤ 8192:=by
  have:=pow_bits (k:=100) h (by omega)
  omega
set_option maxRecDepth 100000 in
set_option maxHeartbeats 4000000 in
theorem parse_ok (s:List UInt8) (w:World) (hs:s.length ≤ 1000000000000000) (hne:s ≠ []) (hd:∀ c ∈ s,isD c = true) :
    Calls Tryz.prog 111 #[.string ⟨s.toArray⟩] w (NatB (dval s) w):=by
  have HD:=Lib.hid hd
  have h48:((48:UInt8).toNat) < 128:=by decide
  have HT:=Lib.hid (fun W=>Tryz.strings_TrimLeft_one ⟨s.toArray⟩ 48 h48 W)
  have htl:Lib.trimLeftB (⟨s.toArray⟩:ByteArray).data.toList 48 = s.dropWhile (· == 48):=rfl
  rw [htl] at HT
  have hts:(s.dropWhile (· == 48)).length ≤ s.length:=dropZ_len s
  have HTD:Hid (∀ c ∈ s.dropWhile (· == 48),isD c = true):=fun c hc=>hd c (dropZ_mem s c hc)
  have HTV:=Lib.hid (dropZ_val s)
  have HBIG:Hid (2500 < (s.dropWhile (· == 48)).length → NatB (dval s) w = NatF 11 w):=fun h=>by
    have h1:=dval_ge _ HTD.out (by intro h0;rw [h0] at h;simp at h) (dropZ_head s (by intro h0;rw [h0] at h;simp at h))
    rw [HTV.out] at h1
    have h2:=pow_big h1 (by omega)
    funext e w'
    unfold NatB
    rw [if_neg h2]
  have hse:s.isEmpty = false:=by cases s <;> simp_all
  clear hd htl
  go_enter Tryz.func111,Tryz.ntmps111
  go_wp2_with fail
  go_loop [12] (fun s12=>∃ j:Nat,s12 = .int .i64 j ∧ j ≤ s.length) (fun s12=>s.length - (intOf s12).toNat)
  case atStart=>exact ⟨0,rfl,by omega⟩
  case round =>
    obtain ⟨j,rfl,hj⟩:=hrel
    by_cases hlt:j < s.length
    · have hb:=dn_get s j hlt
      have hx:48 ≤ dn s j ∧ dn s j ≤ 57:=by have:=isD_dn s j hlt;rw [HD.out _ (List.getElem_mem hlt)] at this;simpa using this.symm
      obtain ⟨h48',h57⟩:=hx
      generalize dn s j = x at *
      have t0:decide ((j:Int) < s.length) = true:=by simp;omega
      have t0':decide (j < s.length) = true:=by simp;omega
      have t1:decide ((x:Int) < 48) = false:=by simp;omega
      have t2:decide ((57:Int) < x) = false:=by simp;omega
      go_wp2_with fail
      go_round
      case rel=>exact ⟨j + 1,by go_num,by omega⟩
      case measure=>simp [intOf];omega
    · obtain rfl:j = s.length:=by omega
      generalize s.dropWhile (· == 48) = t at *
      clear hlt hj
      go_wp2_with fail
      refine (HT.out _).mono ?_
      rintro e w' ⟨rfl,rfl⟩
      by_cases h25:2500 < t.length
      · have t1:decide ((2500:Int) < t.length) = true:=by simp;omega
        have t1':decide (2500 < t.length) = true:=by simp;omega
        have HPF:=Lib.hid (HBIG.out h25)
        clear h25
        go_wp2_with fail
        refine bodyPost_ret (v:=.tuple #[nilN,enoV 11]) (by simp [results,Tryz.results111,go_sem]) rfl ?_
        rw [HPF.out]
        exact ⟨rfl,by go_grown⟩
      · have t1:decide ((2500:Int) < t.length) = false:=by simp;omega
        have t1':decide (2500 < t.length) = false:=by simp;omega
        have ht25:t.length ≤ 2500:=by omega
        clear h25 HBIG hse
        go_wp2_with fail
        go_loopg [0,5] t.length (fun k s0 s5 wr=>∃ (a b:List UInt8) (A:Option Addr) (n c:Nat) (m:List Nat),s0 = .string ⟨b.toArray⟩ ∧ s5 = .slice A n c ∧ t = a ++ b ∧ b.length = k ∧ m.length = n ∧ Figs W64 m ∧ fval W64 m = dval a ∧ RT wr 58 A (m.map wv) ∧ n ≤ c ∧ n ≤ a.length ∧ Blk wr w.heap.size 208 #[.slice none 0 0] ∧ Below w.heap.size w wr)
        case atStart=>exact ⟨[],t,none,0,0,[],rfl,rfl,rfl,rfl,rfl,Figs.nil _,rfl,RT.nil _ _,Nat.le_refl _,by simp,Blk.new w _ _,below_new _ _⟩
        case round =>
          obtain ⟨a,b,A,n,c,m,rfl,rfl,hab,hbk,hmn,hmf,hmv,hrt,hnc,hna,hblk,hbel⟩:=hrel
          obtain ⟨wo,rfl⟩:∃ wo:World,wo = wr:=⟨_,rfl⟩
          have hlen:a.length + b.length ≤ 2500:=by rw [hab,List.length_append] at ht25;exact ht25
          have HAB:=Lib.hid hab
          have HBK:=Lib.hid hbk
          have HMN:=Lib.hid hmn
          have HMF:=Lib.hid hmf
          have HMV:=Lib.hid hmv
          have HRT:=Lib.hid hrt
          have HBE:=Lib.hid hbel
          have HBLK:=Lib.hid hblk
          have HBD:Hid (∀ c ∈ b,isD c = true):=fun c hc=>HTD.out c (by rw [hab];simp [hc])
          have hszo:=hbel.size
          clear hab hbk hmn hmf hmv hrt hbel hblk
          by_cases hb0:0 < b.length
          · have t3:decide (0 < b.length) = true:=by simp;omega
            have t3':decide ((0:Int) < b.length) = true:=by simp;omega
            obtain ⟨k,hk⟩:∃ k:Nat,k = min 18 b.length:=⟨_,rfl⟩
            have hk18:k ≤ 18:=by omega
            have hkb:k ≤ b.length:=by omega
            have hk1:1 ≤ k:=by omega
            have hmin:min (18:Int) (b.length:Int) = (k:Int):=by omega
            clear hk
            go_wp2_with fail
            go_loop [7,8,49] (fun s7 s8 s49=>∃ i:Nat,i ≤ k ∧ s49 = .int .i64 i ∧ s7 = wv (dval (b.take i)) ∧ s8 = wv (10 ^ i)) (fun _ _ s49=>k - (intOf s49).toNat)
            case atStart=>exact ⟨0,by omega,rfl,rfl,rfl⟩
            case round =>
              obtain ⟨i,hik,rfl,rfl,rfl⟩:=hrel
              by_cases hlt:i < k
              · have hb:=dn_get b i (by omega)
                have hx:48 ≤ dn b i ∧ dn b i ≤ 57:=by have:=isD_dn b i (by omega);rw [HBD.out _ (List.getElem_mem _)] at this;simpa using this.symm
                have hts1:b.take (i + 1) = b.take i ++ [b[i]'(by omega)]:=List.take_succ_eq_append_getElem (by omega)
                have hdv:dval (b.take (i + 1)) = 10 * dval (b.take i) + (dn b i - 48):=by
                  rw [hts1,dval_snoc];congr 2
                have hlt1:dval (b.take i) < 10 ^ i:=by
                  have:=dval_lt (b.take i) (fun c hc=>HBD.out c (List.mem_of_mem_take hc))
                  rwa [List.length_take,Nat.min_eq_left (by omega)] at this
                have hp18:10 ^ i ≤ 100000000000000000:=by
                  have:10 ^ i ≤ 10 ^ 17:=Nat.pow_le_pow_right (by omega) (by omega)
                  exact this
                have HDV:=Lib.hid hdv
                have HPS:Hid (10 ^ (i + 1) = 10 ^ i * 10):=Nat.pow_succ 10 i
                obtain ⟨h48',h57⟩:=hx
                have t4:decide ((i:Int) < k) = true:=by simp;omega
                have t4':decide (i < k) = true:=by simp;omega
                have q:(i:Int) < b.length:=by omega
                clear hts1 hdv
                generalize dn b i = x at *
                generalize dval (b.take i) = y at *
                generalize 10 ^ i = z at *
                have r1:IntKind.u64.wrap (10 * (y:Int)) = ((10 * y:Nat):Int):=by rw [show 10 * (y:Int) = ((10 * y:Nat):Int) by omega];exact wrapN _ (by unfold W64;omega)
                have r2:IntKind.u64.wrap (((10 * y:Nat):Int) + ((x:Int) - 48)) = ((10 * y + (x - 48):Nat):Int):=by rw [show ((10 * y:Nat):Int) + ((x:Int) - 48) = ((10 * y + (x - 48):Nat):Int) by omega];exact wrapN _ (by unfold W64;omega)
                have r3:IntKind.u64.wrap ((z:Int) * 10) = ((z * 10:Nat):Int):=by rw [show (z:Int) * 10 = ((z * 10:Nat):Int) by omega];exact wrapN _ (by unfold W64;omega)
                have HY:=Lib.hid (show 10 * y + (x - 48) = 10 * y + (x - 48) from rfl)
                rw [← HDV.out] at r2
                rw [← HPS.out] at r3
                generalize 10 * y = y10 at *
                go_wp2_with fail
                go_round
                case rel=>exact ⟨i + 1,by omega,by go_num,rfl,rfl⟩
                case measure=>simp [intOf];omega
              · obtain rfl:i = k:=by omega
                have hlt1:dval (b.take i) < W64:=by
                  have:=dval_lt (b.take i) (fun c hc=>HBD.out c (List.mem_of_mem_take hc))
                  rw [List.length_take,Nat.min_eq_left (by omega)] at this
                  have h2:10 ^ i ≤ 10 ^ 18:=Nat.pow_le_pow_right (by omega) (by omega)
                  unfold W64
                  omega
                have hp:10 ^ i < W64:=by
                  have h2:10 ^ i ≤ 10 ^ 18:=Nat.pow_le_pow_right (by omega) (by omega)
                  unfold W64
                  omega
                have t4:decide ((i:Int) < i) = false:=by simp
                have HTM:=Lib.hid (times_any A c m (10 ^ i) (dval (b.take i)) wo HRT.out HMF.out hp hlt1 (by rw [HMN.out];exact hnc) (by rw [HMN.out];omega))
                have hda:dval (a ++ b.take i) = fval W64 m * 10 ^ i + dval (b.take i):=by rw [dval_append,HMV.out,List.length_take,Nat.min_eq_left (by omega)]
                rw [HMN.out,← hda] at HTM
                have hex:(⟨b.toArray⟩:ByteArray).extract i b.length = ⟨(b.drop i).toArray⟩:=by
                  apply ByteArray.ext
                  rw [ByteArray.data_extract]
                  simp
                  exact List.take_of_length_le (by simp)
                have HEX:=Lib.hid hex
                clear hda hlt1 hp hlt hex
                generalize dval (b.take i) = y at *
                generalize 10 ^ i = z at *
                go_wp2_with fail
                refine HTM.out.mono ?_
                rintro e w3 ⟨A3,c3,m3,rfl,hm3,hf3,hv3,hr3,hc3,hb3⟩
                have HM3:=Lib.hid hm3
                have HF3:=Lib.hid hf3
                have HV3:=Lib.hid hv3
                have HR3:=Lib.hid hr3
                have HB3:=Lib.hid (keepb HBE.out hb3)
                have HBLK3:=Lib.hid (HBLK.out.below hb3 HBLK.out.lt)
                clear hm3 hf3 hv3 hr3 hb3
                have hex:=HEX.out
                have q:(i:Int) ≤ b.length:=by omega
                go_wp2_with fail
                go_roundg (b.length - i)
                case measure=>rw [← HBK.out];omega
                case rel=>exact ⟨a ++ b.take i,b.drop i,A3,n + 1,c3,m3,rfl,rfl,by rw [List.append_assoc,List.take_append_drop];exact HAB.out,by simp,HM3.out,HF3.out,HV3.out,HR3.out,hc3,by simp;omega,HBLK3.out,HB3.out⟩
          · obtain rfl:b = []:=List.eq_nil_of_length_eq_zero (by omega)
            have hfv:fval W64 m = dval s:=by rw [HMV.out,← HTV.out,HAB.out,List.append_nil]
            have hbl:blen (dval s) ≤ 1000000:=by
              have:=blen_words (fval_lt HMF.out)
              rw [hfv,HMN.out] at this
              simp at hlen
              omega
            have HMD:=Lib.hid (made_nat A n c (dval s) m wo HMN.out HMF.out hfv HRT.out hnc (by simp at hlen;omega))
            have HBL:=Lib.hid hbl
            clear hfv hbl
            go_wp2_with fail
            refine HMD.out.mono ?_
            rintro e w2 ⟨v2,rfl,hv2,hb2⟩
            have HB2:=Lib.hid (keepb HBE.out hb2)
            have HBK2:=Lib.hid (HBLK.out.below hb2 HBLK.out.lt)
            have HN:=Lib.hid (bounded_any v2 (dval s) w2 hv2 HBL.out)
            obtain ⟨A2,n2,c2,rfl,_⟩:=hv2
            clear hb2
            go_wp2_with fail
            refine HN.out.mono ?_
            rintro e w3 h3
            obtain ⟨A3,n3,c3,er,rfl,hq,hb3⟩:=h3.open
            have HB3:=Lib.hid (keepb HB2.out hb3)
            have HBK3:=Lib.hid (HBK2.out.below hb3 HBK2.out.lt)
            have HQ:=Lib.hid hq
            have hc3:=HBK3.out.cell 0
            have hf3:=HBK3.out.frozen 0
            simp at hc3
            have hp:=HBK3.out.put (i:=0) (by simp)
            clear h3 hq hb3
            go_wp2_with fail
            exact bodyPost_ret (v:=.tuple #[.agg #[.slice A3 n3 c3],er]) (by simp [results,Tryz.results111,go_sem,hp]) rfl ((HQ.out.set HBK3.out (by decide) _).mk (HB3.out.setCell (by simp) _))
end Go.Proofs.YtgmholdkdppbmaaGreatDoor
