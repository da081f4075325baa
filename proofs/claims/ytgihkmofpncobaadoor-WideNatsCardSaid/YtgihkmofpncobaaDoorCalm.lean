/- Of a region that draws its order: what only adds to the memory (a load, a call that makes memory of its own) may be taken ahead of what writes. -/
import Derived.Below
import Derived.Test.YtgihkmofpncobaaDoorSure
set_option linter.unusedVariables false
namespace Go.Proofs.YtgihkmofpncobaaDoor
open Go.RowKit

/-- A condition that stays where nothing that was there changes. -/
def Stays (S : World → Prop) : Prop := ∀ w w', S w → Below w.heap.size w w' → S w'

/-- It leaves v, and what was there is as it was. -/
def CGives (P : Program) (v : Value) (w : World) : Result Next → Prop
  | .ok (.value u) w' => u = v ∧ Below w.heap.size w w'
  | .ok .skip w' => undef = v ∧ Below w.heap.size w w'
  | .ok (.enter f args) w' => Calls P f args w' fun e w'' => e = .returned v ∧ Below w.heap.size w w''
  | _ => False
theorem CGives_value (P : Program) (v u : Value) (w w' : World) : CGives P v w (.ok (.value u) w') = (u = v ∧ Below w.heap.size w w') := rfl
theorem CGives_skip (P : Program) (v : Value) (w w' : World) : CGives P v w (.ok .skip w') = (undef = v ∧ Below w.heap.size w w') := rfl
theorem CGives_enter (P : Program) (v : Value) (f : FuncId) (args : Array Value) (w w' : World) : CGives P v w (.ok (.enter f args) w') = Calls P f args w' fun e w'' => e = .returned v ∧ Below w.heap.size w w'' := rfl

def Calm (P : Program) (ops : Array Oper) (S : World → Prop) (o : Oper) (v : Value) (a : Act) : Prop :=
  (Region.wanted o (yielded ops a.tmps) = true ∧ ∀ w, S w → CGives P v w ((execOp a.eval o).run P w)) ∨
  (Region.wanted o (yielded ops a.tmps) = false ∧ undef = v)

def MGives (P : Program) (K : Value → World → Prop) : Result Next → Prop
  | .ok (.value u) w' => K u w'
  | .ok .skip w' => K undef w'
  | .ok (.enter f args) w' => Calls P f args w' fun e w'' => ∃ v, e = .returned v ∧ K v w''
  | _ => False
theorem MGives_value (P : Program) (K : Value → World → Prop) (u : Value) (w' : World) : MGives P K (.ok (.value u) w') = K u w' := rfl
theorem MGives_skip (P : Program) (K : Value → World → Prop) (w' : World) : MGives P K (.ok .skip w') = K undef w' := rfl
theorem MGives_enter (P : Program) (K : Value → World → Prop) (f : FuncId) (args : Array Value) (w' : World) : MGives P K (.ok (.enter f args) w') = Calls P f args w' fun e w'' => ∃ v, e = .returned v ∧ K v w'' := rfl

/-- An operation to which the memory is nothing. -/
def pureB (o : Oper) : Bool := match o.op with
  | .extract .. => true
  | .move .. => true
  | _ => false
theorem pure_calm {P : Program} {ρ : Operand → Value} {o : Oper} (h : pureB o = true) {v : Value} {w : World} (hg : CGives P v w ((execOp ρ o).run P w)) (w' : World) : CGives P v w' ((execOp ρ o).run P w') := by
  obtain ⟨dst, op, type, pos, after, guard⟩ := o
  cases op <;> simp only [pureB] at h <;> try (cases h)
  case move x =>
    simp [execOp, go_sem, CGives] at hg ⊢
    exact ⟨hg.1, Below.refl _ _⟩
  rename_i t ix
  simp only [execOp] at hg ⊢
  generalize ρ t = x at *
  cases x <;> simp only [Instr.extract] at hg ⊢ <;> try (simp [go_sem, CGives] at hg; done)
  rename_i vs
  cases hx : vs[ix]? with
  | none => rw [hx] at hg; simp [go_sem, CGives] at hg
  | some u =>
    rw [hx] at hg
    simp [go_sem, CGives] at hg ⊢
    exact ⟨hg.1, Below.refl _ _⟩
/-- It waits for k, straight or by others. -/
def reachB (ops : Array Oper) : Nat → Nat → Nat → Bool
  | 0, _, _ => false
  | n + 1, i, k => match ops[i]? with
    | none => false
    | some o => o.after.any fun e => Region.binds .any e && (e.on == k || reachB ops n e.on k)
/-- It waits for all that has come up, but for what does not look at the memory. -/
def waitsB (ops : Array Oper) (l : Array Bool) (i : Nat) : Bool :=
  match ops[i]? with
  | none => false
  | some o => (List.range ops.size).all fun k => !l.getD k false || o.after.any (fun e => Region.binds .any e && e.on == k) || (match ops[k]? with | some p => pureB p | none => false) || reachB ops ops.size i k
/-- A way through the region. -/
def Way (P : Program) (ops : Array Oper) (Q : Exit → Act → World → Prop) : Nat → Array Bool → Act → (World → Prop) → Prop
  | 0, listed, b, S => Region.ready .any ops listed = [] ∧ ∀ w, S w → Q .normal b w
  | fuel + 1, listed, b, S =>
    (Region.ready .any ops listed = [] ∧ ∀ w, S w → Q .normal b w) ∨
    (∃ i o v, i ∈ Region.ready .any ops listed ∧ ops[i]? = some o ∧ Calm P ops S o v b ∧ Way P ops Q fuel (listed.setIfInBounds i true) (b.put o.dst v) S) ∨
    (Region.ready .any ops listed ≠ [] ∧ ∀ i ∈ Region.ready .any ops listed, ∃ o, ops[i]? = some o ∧ Region.wanted o (yielded ops b.tmps) = true ∧
      ∀ w, S w → MGives P (fun v w' => ∃ S', Stays S' ∧ ((∀ x, S' x → S x) ∨ waitsB ops listed i = true) ∧ S' w' ∧ Way P ops Q fuel (listed.setIfInBounds i true) (b.put o.dst v) S') ((execOp b.eval o).run P w))

def On (l : Array Bool) (k : Nat) : Prop := l.getD k false = true
theorem on_set {l : Array Bool} {i k : Nat} (hi : i < l.size) : On (l.setIfInBounds i true) k ↔ On l k ∨ k = i := by
  unfold On
  by_cases h : i = k
  · subst h; simp [Array.getD_eq_getD_getElem?, hi]
  · rw [getD_set_ne false h]; simp [Ne.symm h]
theorem ready_iff {ops : Array Oper} {l : Array Bool} (hs : l.size = ops.size) {j : Nat} : j ∈ Region.ready .any ops l ↔ ∃ o, ops[j]? = some o ∧ ¬ On l j ∧ ∀ e ∈ o.after, Region.binds .any e = true → On l e.on := by
  rw [mem_ready]
  constructor
  · rintro ⟨h0, o, ho, h⟩
    refine ⟨o, ho, ?_, h⟩
    have hlt := (Array.getElem?_eq_some_iff.1 ho).1
    unfold On
    simp only [Array.getD_eq_getD_getElem?, hs, hlt, Array.getElem?_eq_getElem, Option.getD_some] at h0 ⊢
    simp [h0]
  · rintro ⟨o, ho, h0, h⟩
    refine ⟨?_, o, ho, h⟩
    have hlt := (Array.getElem?_eq_some_iff.1 ho).1
    unfold On at h0
    simp only [Array.getD_eq_getD_getElem?, hs, hlt, Array.getElem?_eq_getElem, Option.getD_some] at h0 ⊢
    simpa using h0
theorem ready_all {ops : Array Oper} (ok : SureOk ops) {l : Array Bool} (hs : l.size = ops.size) (hr : Region.ready .any ops l = []) : ∀ n i, i < n → i < ops.size → On l i := by
  intro n
  induction n with
  | zero => intro i hi; omega
  | succ n ih =>
    intro i hi hlt
    rcases Classical.em (On l i) with h | h
    · exact h
    · exfalso
      have : i ∈ Region.ready .any ops l := (ready_iff hs).2 ⟨ops[i], Array.getElem?_eq_getElem hlt, h, fun e he hb => by
        have hup := ok.up i ops[i] (Array.getElem?_eq_getElem hlt) e he hb
        exact ih e.on (by omega) (by omega)⟩
      rw [hr] at this; cases this

structure Pend (P : Program) (ops : Array Oper) (S : World → Prop) (l l' : Array Bool) (I : List (Nat × Value)) (a b : Act) : Prop where
  sz : l.size = ops.size
  sz' : l'.size = ops.size
  on : ∀ k, On l' k ↔ On l k ∨ ∃ v, (k, v) ∈ I
  nd : (I.map (·.1)).Nodup
  pend : ∀ (k : Nat) (v : Value), (k, v) ∈ I → ∃ o : Oper, ops[k]? = some o ∧ ¬ On l k ∧ Calm P ops S o v b ∧ (∀ e ∈ o.after, Region.binds .any e = true → On l' e.on) ∧ (∀ d, o.dst = some d → d < b.tmps.size → b.tmps[d]? = some v)
  defers : a.defers = b.defers
  size : a.tmps.size = b.tmps.size
  same : ∀ (t : Nat), (∀ (k : Nat) (v : Value) (o : Oper), (k, v) ∈ I → ops[k]? = some o → o.dst ≠ some t) → a.tmps[t]? = b.tmps[t]?

theorem put_get_ne {a : Act} {d : Option Tmp} {v : Value} {t : Nat} (h : d ≠ some t) : (a.put d v).tmps[t]? = a.tmps[t]? := by
  cases d with
  | none => rfl
  | some d => simp only [Act.put]; exact Array.getElem?_setIfInBounds_ne fun e => h (by rw [e])
theorem put_get {a : Act} {t : Nat} {v : Value} (h : t < a.tmps.size) : (a.put (some t) v).tmps[t]? = some v := by simp [Act.put, h]
theorem put_size (a : Act) (d : Option Tmp) (v : Value) : (a.put d v).tmps.size = a.tmps.size := by cases d <;> simp [Act.put]
theorem put_defers' (a : Act) (d : Option Tmp) (v : Value) : (a.put d v).defers = a.defers := by cases d <;> rfl

theorem Calm.looks {P : Program} {ops : Array Oper} {S : World → Prop} {o : Oper} {v : Value} {a a' : Act} (hs : ∀ cs b, o.op ≠ .select cs b) (h : ∀ t ∈ o.looksAt ops, a.tmps[t]? = a'.tmps[t]?) (hy : Calm P ops S o v a) :
    Calm P ops S o v a' := by
  unfold Calm at *
  rw [← eval_looks hs h, ← wanted_looks h]
  exact hy
theorem Calm.mono {P : Program} {ops : Array Oper} {S S' : World → Prop} {o : Oper} {v : Value} {a : Act} (h : ∀ x, S' x → S x) (hy : Calm P ops S o v a) : Calm P ops S' o v a :=
  hy.imp (fun ⟨hw, hv⟩ => ⟨hw, fun w hs => hv w (h w hs)⟩) id

theorem Calm.wpOp {P : Program} {ops : Array Oper} {S : World → Prop} {Q : Exit → Act → World → Prop} {i : Nat} {o : Oper} {v : Value} {a : Act} (hi : ops[i]? = some o) (hy : Calm P ops S o v a)
    {K : Act → World → Prop} {w : World} (hS : S w) (hst : Stays S) (h : ∀ w', S w' → K (a.put o.dst v) w') : wpOp P ops Q i K a w := by
  unfold Go.wpOp
  simp only [hi]
  rcases hy with ⟨hw, hv⟩ | ⟨hw, rfl⟩
  · simp only [hw, if_true]
    refine .inl ?_
    have hh := hv w hS
    unfold Oper.wp
    generalize (execOp a.eval o).run P w = r at *
    cases r with
    | ok n w' =>
      cases n <;> simp only [Oper.upon] <;> simp only [CGives] at hh
      case value u => obtain ⟨rfl, hs⟩ := hh; exact h _ (hst _ _ hS hs)
      case skip => obtain ⟨rfl, hs⟩ := hh; exact h _ (hst _ _ hS hs)
      case enter f args => exact Calls.mono hh fun e w'' ⟨he, hs⟩ => by subst he; exact h _ (hst _ _ hS hs)
    | halt x w' => simp [CGives] at hh
  · simp only [hw, Bool.false_eq_true, if_false]; exact h _ hS

theorem moves_wpOp {P : Program} {ops : Array Oper} {Q : Exit → Act → World → Prop} {i : Nat} {o : Oper} {a : Act} (hi : ops[i]? = some o) (hw : Region.wanted o (yielded ops a.tmps) = true)
    {K : Act → World → Prop} {w : World} (h : MGives P (fun v w' => K (a.put o.dst v) w') ((execOp a.eval o).run P w)) : wpOp P ops Q i K a w := by
  unfold Go.wpOp
  simp only [hi, hw, if_true]
  refine .inl ?_
  unfold Oper.wp
  generalize (execOp a.eval o).run P w = r at *
  cases r with
  | ok n w' =>
    cases n <;> simp only [Oper.upon] <;> simp only [MGives] at h
    case value u => exact h
    case skip => exact h
    case enter f args => exact Calls.mono h fun e w'' ⟨v, he, hs⟩ => by subst he; exact hs
  | halt x w' => simp [MGives] at h
theorem MGives.mono {P : Program} {K K' : Value → World → Prop} {r : Result Next} (h : MGives P K r) (hk : ∀ v w, K v w → K' v w) : MGives P K' r := by
  cases r with
  | ok n w' =>
    cases n <;> simp only [MGives] at h ⊢
    case value u => exact hk _ _ h
    case skip => exact hk _ _ h
    case enter f args => exact Calls.mono h fun e w'' ⟨v, he, hs⟩ => ⟨v, he, hk _ _ hs⟩
  | halt x w' => simp [MGives] at h

theorem Pend.looks {P : Program} {ops : Array Oper} (ok : SureOk ops) {S : World → Prop} {l l' : Array Bool} {I : List (Nat × Value)} {a b : Act} (h : Pend P ops S l l' I a b) {j : Nat} {o : Oper} (hj : ops[j]? = some o)
    (hd : ∀ e ∈ o.after, Region.binds .any e = true → On l e.on) : ∀ t ∈ o.looksAt ops, a.tmps[t]? = b.tmps[t]? := fun t ht =>
  h.same t fun k v p hk hp hdst => by
    obtain ⟨e, he, hb, rfl⟩ := ok.look j o k p t hj hp hdst ht
    obtain ⟨p', _, hn, _⟩ := h.pend _ v hk
    exact hn (hd e he hb)

/-- What is pending runs. -/
theorem Pend.run {P : Program} {ops : Array Oper} (ok : SureOk ops) {S : World → Prop} {l l' : Array Bool} {I1 I2 : List (Nat × Value)} {a b : Act} {j : Nat} {v : Value} {o : Oper} (h : Pend P ops S l l' (I1 ++ (j, v) :: I2) a b) (hj : ops[j]? = some o) :
    Pend P ops S (l.setIfInBounds j true) l' (I1 ++ I2) (a.put o.dst v) b := by
  have hlt := (Array.getElem?_eq_some_iff.1 hj).1
  have hlt' : j < l.size := by rw [h.sz]; exact hlt
  have sub : ∀ p, p ∈ I1 ++ I2 → p ∈ I1 ++ (j, v) :: I2 := fun p hp => by
    rcases List.mem_append.1 hp with hp | hp
    · exact List.mem_append.2 (.inl hp)
    · exact List.mem_append.2 (.inr (List.mem_cons_of_mem _ hp))
  have hself : (j, v) ∈ I1 ++ (j, v) :: I2 := List.mem_append.2 (.inr List.mem_cons_self)
  have hne : ∀ k u, (k, u) ∈ I1 ++ I2 → k ≠ j := fun k u hk he => by
    subst he
    have hnd := h.nd
    rw [List.map_append, List.map_cons, List.nodup_append] at hnd
    obtain ⟨_, h2, h3⟩ := hnd
    rcases List.mem_append.1 hk with hk | hk
    · exact h3 _ (List.mem_map_of_mem (f := (·.1)) hk) _ List.mem_cons_self rfl
    · exact (List.nodup_cons.1 h2).1 (List.mem_map_of_mem (f := (·.1)) hk)
  refine ⟨by simpa using h.sz, h.sz', fun k => ?_, ?_, fun k u hk => ?_, ?_, ?_, fun t ht => ?_⟩
  · rw [h.on, on_set hlt']
    constructor
    · rintro (hk | ⟨u, hu⟩)
      · exact .inl (.inl hk)
      · by_cases hkj : k = j
        · exact .inl (.inr hkj)
        · refine .inr ⟨u, ?_⟩
          rcases List.mem_append.1 hu with hu | hu
          · exact List.mem_append.2 (.inl hu)
          · rcases List.mem_cons.1 hu with hu | hu
            · cases hu; exact absurd rfl hkj
            · exact List.mem_append.2 (.inr hu)
    · rintro ((hk | rfl) | ⟨u, hu⟩)
      · exact .inl hk
      · exact .inr ⟨v, hself⟩
      · exact .inr ⟨u, sub _ hu⟩
  · have hnd := h.nd
    rw [List.map_append, List.map_cons, List.nodup_append] at hnd
    obtain ⟨h1, h2, h3⟩ := hnd
    rw [List.map_append, List.nodup_append]
    exact ⟨h1, (List.nodup_cons.1 h2).2, fun x hx y hy => h3 x hx y (List.mem_cons_of_mem _ hy)⟩
  · obtain ⟨p, hp, hn, hc, hd, hv⟩ := h.pend k u (sub _ hk)
    exact ⟨p, hp, (fun hon => by rcases (on_set hlt').1 hon with hon | he; exact hn hon; exact hne k u hk he), hc, hd, hv⟩
  · rw [put_defers']; exact h.defers
  · rw [put_size]; exact h.size
  · by_cases hdst : o.dst = some t
    · obtain ⟨p, hp, hn, hc, hd, hv⟩ := h.pend j v hself
      rw [hj] at hp; cases hp
      by_cases hs : t < b.tmps.size
      · rw [hv t hdst hs, hdst, put_get (by rw [h.size]; exact hs)]
      · rw [Array.getElem?_eq_none (by rw [put_size, h.size]; omega), Array.getElem?_eq_none (by omega)]
    · rw [put_get_ne hdst]
      refine h.same t fun k u p hk hp => ?_
      by_cases hkj : k = j
      · subst hkj; rw [hj] at hp; cases hp; exact hdst
      · refine ht k u p ?_ hp
        rcases List.mem_append.1 hk with hk | hk
        · exact List.mem_append.2 (.inl hk)
        · rcases List.mem_cons.1 hk with hk | hk
          · cases hk; exact absurd rfl hkj
          · exact List.mem_append.2 (.inr hk)

/-- One more is pending. -/
theorem Pend.more {P : Program} {ops : Array Oper} (ok : SureOk ops) {S : World → Prop} {l l' : Array Bool} {I : List (Nat × Value)} {a b : Act} (h : Pend P ops S l l' I a b) {i : Nat} {o : Oper} {v : Value} (hi : ops[i]? = some o)
    (hn : ¬ On l' i) (hd : ∀ e ∈ o.after, Region.binds .any e = true → On l' e.on) (hc : Calm P ops S o v b) : Pend P ops S l (l'.setIfInBounds i true) ((i, v) :: I) a (b.put o.dst v) := by
  have hlt := (Array.getElem?_eq_some_iff.1 hi).1
  have hlt' : i < l'.size := by rw [h.sz']; exact hlt
  have hni : ∀ k u, (k, u) ∈ I → k ≠ i := fun k u hk he => by subst he; exact hn ((h.on k).2 (.inr ⟨u, hk⟩))
  have keep : ∀ {k : Nat} {p : Oper} {u : Value}, ops[k]? = some p → (∀ e ∈ p.after, Region.binds .any e = true → On l' e.on) → Calm P ops S p u b → Calm P ops S p u (b.put o.dst v) := fun {k p u} hk hd hc => by
    refine hc.looks (fun cs b' => ok.sel k p cs b' hk) fun t ht => ?_
    rw [put_get_ne]
    intro hdst
    obtain ⟨e, he, hb, hon⟩ := ok.look k p i o t hk hi hdst ht
    exact hn (hon ▸ hd e he hb)
  refine ⟨h.sz, by simpa using h.sz', fun k => ?_, ?_, fun k u hk => ?_, ?_, ?_, fun t ht => ?_⟩
  · rw [on_set hlt', h.on]
    constructor
    · rintro ((hk | ⟨u, hu⟩) | rfl)
      · exact .inl hk
      · exact .inr ⟨u, List.mem_cons_of_mem _ hu⟩
      · exact .inr ⟨v, List.mem_cons_self⟩
    · rintro (hk | ⟨u, hu⟩)
      · exact .inl (.inl hk)
      · rcases List.mem_cons.1 hu with hu | hu
        · cases hu; exact .inr rfl
        · exact .inl (.inr ⟨u, hu⟩)
  · rw [List.map_cons, List.nodup_cons]
    refine ⟨fun hm => ?_, h.nd⟩
    obtain ⟨⟨k, u⟩, hk, rfl⟩ := List.mem_map.1 hm
    exact hni k u hk rfl
  · have hon : ∀ x, On l' x → On (l'.setIfInBounds i true) x := fun x hx => (on_set hlt').2 (.inl hx)
    rcases List.mem_cons.1 hk with hk | hk
    · cases hk
      refine ⟨o, hi, fun hx => hn ((h.on _).2 (.inl hx)), keep hi hd hc, fun e he hb => hon _ (hd e he hb), fun d hdst hs => ?_⟩
      rw [put_size] at hs
      rw [hdst, put_get hs]
    · obtain ⟨p, hp, hnl, hcp, hdp, hv⟩ := h.pend k u hk
      refine ⟨p, hp, hnl, keep hp hdp hcp, fun e he hb => hon _ (hdp e he hb), fun d hdst hs => ?_⟩
      rw [put_size] at hs
      rw [put_get_ne fun he => hni k u hk (ok.one k p i o d hp hi hdst he)]
      exact hv d hdst hs
  · rw [put_defers']; exact h.defers
  · rw [put_size]; exact h.size
  · rw [put_get_ne (ht i v o List.mem_cons_self hi)]
    exact h.same t fun k u p hk hp => ht k u p (List.mem_cons_of_mem _ hk) hp

/-- What writes runs. -/
theorem Pend.move {P : Program} {ops : Array Oper} (ok : SureOk ops) {S S' : World → Prop} {l l' : Array Bool} {I : List (Nat × Value)} {a b : Act} (h : Pend P ops S l l' I a b) {j : Nat} {o : Oper} {v : Value} (hj : ops[j]? = some o)
    (hn : ¬ On l' j) (hS : ∀ (k : Nat) (u : Value) (p : Oper), (k, u) ∈ I → ops[k]? = some p → Calm P ops S p u b → Calm P ops S' p u b) : Pend P ops S' (l.setIfInBounds j true) (l'.setIfInBounds j true) I (a.put o.dst v) (b.put o.dst v) := by
  have hlt := (Array.getElem?_eq_some_iff.1 hj).1
  have hl : j < l.size := by rw [h.sz]; exact hlt
  have hl' : j < l'.size := by rw [h.sz']; exact hlt
  have hni : ∀ k u, (k, u) ∈ I → k ≠ j := fun k u hk he => by subst he; exact hn ((h.on k).2 (.inr ⟨u, hk⟩))
  refine ⟨by simpa using h.sz, by simpa using h.sz', fun k => ?_, h.nd, fun k u hk => ?_, ?_, ?_, fun t ht => ?_⟩
  · rw [on_set hl', on_set hl, h.on]
    constructor
    · rintro ((hk | hk) | hk)
      · exact .inl (.inl hk)
      · exact .inr hk
      · exact .inl (.inr hk)
    · rintro ((hk | hk) | hk)
      · exact .inl (.inl hk)
      · exact .inr hk
      · exact .inl (.inr hk)
  · obtain ⟨p, hp, hnl, hcp, hdp, hv⟩ := h.pend k u hk
    refine ⟨p, hp, (fun hon => ?_), ?_, (fun e he hb => (on_set hl').2 (.inl (hdp e he hb))), (fun d hdst hs => ?_)⟩
    · rcases (on_set hl).1 hon with hon | he
      · exact hnl hon
      · exact hni k u hk he
    · refine (hS k u p hk hp hcp).looks (fun cs b' => ok.sel k p cs b' hp) fun t ht => ?_
      rw [put_get_ne]
      intro hdst
      obtain ⟨e, he, hb, hon⟩ := ok.look k p j o t hp hj hdst ht
      exact hn (hon ▸ hdp e he hb)
    · rw [put_size] at hs
      rw [put_get_ne fun he => hni k u hk (ok.one k p j o d hp hj hdst he)]
      exact hv d hdst hs
  · rw [put_defers', put_defers']; exact h.defers
  · rw [put_size, put_size]; exact h.size
  · by_cases hdst : o.dst = some t
    · by_cases hs : t < b.tmps.size
      · rw [hdst, put_get hs, put_get (by rw [h.size]; exact hs)]
      · rw [Array.getElem?_eq_none (by rw [put_size, h.size]; omega), Array.getElem?_eq_none (by rw [put_size]; omega)]
    · rw [put_get_ne hdst, put_get_ne hdst]; exact h.same t ht

theorem Pend.none {P : Program} {ops : Array Oper} {S : World → Prop} {l l' : Array Bool} {a b : Act} (h : Pend P ops S l l' [] a b) : a = b := by
  have ht : a.tmps = b.tmps := Array.ext_getElem? fun t => h.same t fun k v o hk => by cases hk
  have hd := h.defers
  cases a; cases b
  simp only at ht hd
  rw [ht, hd]

/-- What has run, ran behind what it waits for. -/
def Cl (ops : Array Oper) (l : Array Bool) : Prop := ∀ (k : Nat) (o : Oper), ops[k]? = some o → On l k → ∀ e ∈ o.after, Region.binds .any e = true → On l e.on
theorem Cl.run {ops : Array Oper} {l : Array Bool} {j : Nat} {o : Oper} (h : Cl ops l) (hs : l.size = ops.size) (hj : ops[j]? = some o) (hd : ∀ e ∈ o.after, Region.binds .any e = true → On l e.on) : Cl ops (l.setIfInBounds j true) := by
  have hlt : j < l.size := by rw [hs]; exact (Array.getElem?_eq_some_iff.1 hj).1
  intro k p hk hon e he hb
  refine (on_set hlt).2 (.inl ?_)
  rcases (on_set hlt).1 hon with h1 | rfl
  · exact h k p hk h1 e he hb
  · rw [hj] at hk; cases hk; exact hd e he hb
theorem reach_on {ops : Array Oper} {l : Array Bool} (h : Cl ops l) : ∀ (n i k : Nat) (o : Oper), ops[i]? = some o → (∀ e ∈ o.after, Region.binds .any e = true → On l e.on) → reachB ops n i k = true → On l k
  | 0, _, _, _, _, _, hr => by simp [reachB] at hr
  | n + 1, i, k, o, hi, hd, hr => by
    simp only [reachB, hi] at hr
    obtain ⟨e, he, hb⟩ := Array.any_eq_true'.1 hr
    simp only [Bool.and_eq_true, Bool.or_eq_true, beq_iff_eq] at hb
    have hon := hd e he hb.1
    rcases hb.2 with h1 | h1
    · exact h1 ▸ hon
    · cases ho : ops[e.on]? with
      | none => cases n <;> simp [reachB, ho] at h1
      | some p => exact reach_on h n e.on k p ho (fun e' he' hb' => h e.on p ho hon e' he' hb') h1
theorem way_sound {P : Program} {ops : Array Oper} {Q : Exit → Act → World → Prop} (ok : SureOk ops) :
    ∀ (m fuel : Nat) (I : List (Nat × Value)) (l l' : Array Bool) (a b : Act) (S : World → Prop) (w : World), fuel + I.length = m → Cl ops l → Pend P ops S l l' I a b → Way P ops Q fuel l' b S → Stays S → S w → wpAny P .any ops Q m l a w := by
  intro m
  induction m with
  | zero =>
    intro fuel I l l' a b S w hm hcl hp hw hst hS
    obtain rfl : I = [] := List.eq_nil_of_length_eq_zero (by omega)
    obtain rfl : fuel = 0 := by omega
    obtain rfl := hp.none
    refine ⟨?_, hw.2 w hS⟩
    cases hr : Region.ready .any ops l with
    | nil => rfl
    | cons x xs =>
      have hx : x ∈ Region.ready .any ops l := by rw [hr]; exact List.mem_cons_self
      obtain ⟨o, ho, hn, hd⟩ := (ready_iff hp.sz).1 hx
      have : x ∈ Region.ready .any ops l' := (ready_iff hp.sz').2 ⟨o, ho, (fun h => by rcases (hp.on x).1 h with h | ⟨v, h⟩; exact hn h; cases h), fun e he hb => (hp.on _).2 (.inl (hd e he hb))⟩
      rw [hw.1] at this; cases this
  | succ m ihm =>
    intro fuel
    induction fuel with
    | zero =>
      intro I l l' a b S w hm hcl hp hw hst hS
      have hall := ready_all ok hp.sz' hw.1
      refine ⟨fun hr => ?_, fun j hj => ?_⟩
      · have hall' := ready_all ok hp.sz hr
        cases hI : I with
        | nil => subst hI; rw [hp.none]; exact hw.2 w hS
        | cons x xs =>
          obtain ⟨k, v⟩ := x
          obtain ⟨o, ho, hn, _⟩ := hp.pend k v (by rw [hI]; exact List.mem_cons_self)
          exact absurd (hall' (k + 1) k (by omega) (Array.getElem?_eq_some_iff.1 ho).1) hn
      · obtain ⟨o, ho, hn, hd⟩ := (ready_iff hp.sz).1 hj
        rcases (hp.on j).1 (hall (j + 1) j (by omega) (Array.getElem?_eq_some_iff.1 ho).1) with h | ⟨v, hv⟩
        · exact absurd h hn
        · obtain ⟨I1, I2, rfl⟩ := List.append_of_mem hv
          obtain ⟨o', ho', _, hc, _⟩ := hp.pend j v hv
          rw [ho] at ho'; cases ho'
          have hc' : Calm P ops S o v a := hc.looks (fun cs b' => ok.sel j o cs b' ho) fun t ht => (hp.looks ok ho hd t ht).symm
          exact hc'.wpOp ho hS hst fun w' hS' => ihm 0 (I1 ++ I2) _ l' _ b S w' (by simp at hm ⊢; omega) (hcl.run hp.sz ho hd) (hp.run ok ho) hw hst hS'
    | succ fuel ihf =>
      intro I l l' a b S w hm hcl hp hw hst hS
      have run : ∀ (hw : Way P ops Q (fuel + 1) l' b S) j, j ∈ Region.ready .any ops l → On l' j → wpOp P ops Q j (wpAny P .any ops Q m (l.setIfInBounds j true)) a w := fun hw j hj hon => by
        obtain ⟨o, ho, hn, hd⟩ := (ready_iff hp.sz).1 hj
        rcases (hp.on j).1 hon with h | ⟨v, hv⟩
        · exact absurd h hn
        · obtain ⟨I1, I2, rfl⟩ := List.append_of_mem hv
          obtain ⟨o', ho', _, hc, _⟩ := hp.pend j v hv
          rw [ho] at ho'; cases ho'
          have hc' : Calm P ops S o v a := hc.looks (fun cs b' => ok.sel j o cs b' ho) fun t ht => (hp.looks ok ho hd t ht).symm
          exact hc'.wpOp ho hS hst fun w' hS' => ihm (fuel + 1) (I1 ++ I2) _ l' _ b S w' (by simp at hm ⊢; omega) (hcl.run hp.sz ho hd) (hp.run ok ho) hw hst hS'
      rcases id hw with ⟨hr', hQ⟩ | ⟨i, o, v, hi, ho, hc, hrest⟩ | ⟨hne, hmv⟩
      · have hall := ready_all ok hp.sz' hr'
        refine ⟨fun hr => ?_, fun j hj => ?_⟩
        · have hall' := ready_all ok hp.sz hr
          cases hI : I with
          | nil => subst hI; rw [hp.none]; exact hQ w hS
          | cons x xs =>
            obtain ⟨k, v⟩ := x
            obtain ⟨o, ho, hn, _⟩ := hp.pend k v (by rw [hI]; exact List.mem_cons_self)
            exact absurd (hall' (k + 1) k (by omega) (Array.getElem?_eq_some_iff.1 ho).1) hn
        · obtain ⟨o, ho, hn, hd⟩ := (ready_iff hp.sz).1 hj
          exact run hw j hj (hall (j + 1) j (by omega) (Array.getElem?_eq_some_iff.1 ho).1)
      · obtain ⟨o', ho', hn, hd⟩ := (ready_iff hp.sz').1 hi
        rw [ho] at ho'; cases ho'
        exact ihf ((i, v) :: I) l _ a _ S w (by simp; omega) hcl (hp.more ok ho hn hd hc) hrest hst hS
      · refine ⟨fun hr => ?_, fun j hj => ?_⟩
        · have hall' := ready_all ok hp.sz hr
          exfalso
          apply hne
          cases hr' : Region.ready .any ops l' with
          | nil => rfl
          | cons x xs =>
            have hx : x ∈ Region.ready .any ops l' := by rw [hr']; exact List.mem_cons_self
            obtain ⟨o, ho, hn, _⟩ := (ready_iff hp.sz').1 hx
            exact absurd ((hp.on x).2 (.inl (hall' (x + 1) x (by omega) (Array.getElem?_eq_some_iff.1 ho).1))) hn
        · by_cases hon : On l' j
          · exact run hw j hj hon
          · obtain ⟨o, ho, hn, hd⟩ := (ready_iff hp.sz).1 hj
            have hj' : j ∈ Region.ready .any ops l' := (ready_iff hp.sz').2 ⟨o, ho, hon, fun e he hb => (hp.on _).2 (.inl (hd e he hb))⟩
            obtain ⟨o', ho', hwant, hg⟩ := hmv j hj'
            rw [ho] at ho'; cases ho'
            have hl := hp.looks ok ho hd
            have hg' := hg w hS
            rw [← eval_looks (fun cs b' => ok.sel j o cs b' ho) hl] at hg'
            rw [← wanted_looks hl] at hwant
            refine moves_wpOp ho hwant (hg'.mono fun v w' => ?_)
            rintro ⟨S', hst', hle, hS', hrest⟩
            refine ihm fuel I _ _ _ _ S' w' (by omega) (hcl.run hp.sz ho hd) (hp.move ok ho hon ?_) hrest hst' hS'
            intro k u p hk hkp hcp
            rcases hle with hle | hw'
            · exact hcp.mono hle
            · obtain ⟨p', hkp', hnk, _⟩ := hp.pend k u hk
              rw [hkp] at hkp'; cases hkp'
              have hlk : On l' k := (hp.on k).2 (.inr ⟨u, hk⟩)
              unfold waitsB at hw'
              rw [ho] at hw'
              have h1 := List.all_eq_true.1 hw' k (List.mem_range.2 (Array.getElem?_eq_some_iff.1 hkp).1)
              unfold On at hlk
              rw [hlk, hkp] at h1
              simp only [Bool.not_true, Bool.false_or, Bool.or_eq_true] at h1
              rcases h1 with (h1 | h1) | h1
              · obtain ⟨e, he, hb⟩ := Array.any_eq_true'.1 h1
                simp only [Bool.and_eq_true, beq_iff_eq] at hb
                exact absurd (hb.2 ▸ hd e he hb.1) hnk
              rotate_left
              · exact absurd (reach_on hcl _ _ _ _ ho hd h1) hnk
              · refine hcp.imp (fun ⟨hw0, hv⟩ => ⟨hw0, fun w1 _ => pure_calm h1 (hv w hS) w1⟩) id

/-- The beginning: a region that draws its order. -/
theorem wp_region_way {P : Program} {id : Nat} {ops : Array Oper} {S : World → Prop} {Q : Exit → Act → World → Prop} {a : Act} {w : World} (hm : P.follows .mixedOrders = true) (hok : sureB ops = true) (hst : Stays S) (hS : S w.drew)
    (h : Way P ops Q ops.size (Array.replicate ops.size false) a S) : (Code.region id ops true).wp P Q a w :=
  wp_region_any hm (way_sound (sureB_spec hok) ops.size ops.size [] _ _ a a S _ (by simp) (fun k o _ hon => by simp [On, Array.getD_eq_getD_getElem?, Array.getElem?_replicate] at hon; split at hon <;> simp at hon) ⟨by simp, by simp, (fun k => by simp), by simp, (fun k v hk => by cases hk), rfl, rfl, fun t _ => rfl⟩ h hst hS)

/-- An operation by its place, so that it reads as it is written. -/
def opAt : List Oper → Nat → Option Oper
  | [], _ => none
  | o :: _, 0 => some o
  | _ :: l, n + 1 => opAt l n
theorem opAt_eq : ∀ (l : List Oper) (i : Nat), opAt l i = l[i]?
  | [], _ => rfl
  | _ :: _, 0 => rfl
  | _ :: l, n + 1 => by rw [opAt, opAt_eq l n, List.getElem?_cons_succ]
theorem opAt_arr {ops : Array Oper} {i : Nat} {o : Oper} (h : opAt ops.toList i = some o) : ops[i]? = some o := by
  rw [opAt_eq] at h; simpa using h
section
variable {P : Program} {ops : Array Oper} {Q : Exit → Act → World → Prop} {fuel : Nat} {l : Array Bool} {b : Act} {S : World → Prop}
theorem Way.done (hr : Region.ready .any ops l = []) (h : ∀ w, S w → Q .normal b w) : Way P ops Q fuel l b S := by
  cases fuel with
  | zero => exact ⟨hr, h⟩
  | succ n => exact .inl ⟨hr, h⟩
theorem Way.yes (i : Nat) {o : Oper} {v : Value} (ho : opAt ops.toList i = some o) (hr : (Region.ready .any ops l).contains i = true) (hw : Region.wanted o (yielded ops b.tmps) = true) (hg : ∀ w, S w → CGives P v w ((execOp b.eval o).run P w))
    (h : Way P ops Q fuel (l.setIfInBounds i true) (b.put o.dst v) S) : Way P ops Q (fuel + 1) l b S := .inr (.inl ⟨i, o, v, by simpa using hr, opAt_arr ho, .inl ⟨hw, hg⟩, h⟩)
theorem Way.no (i : Nat) {o : Oper} (ho : opAt ops.toList i = some o) (hr : (Region.ready .any ops l).contains i = true) (hw : Region.wanted o (yielded ops b.tmps) = false)
    (h : Way P ops Q fuel (l.setIfInBounds i true) (b.put o.dst undef) S) : Way P ops Q (fuel + 1) l b S := .inr (.inl ⟨i, o, undef, by simpa using hr, opAt_arr ho, .inr ⟨hw, rfl⟩, h⟩)
/-- What an operation that writes leaves. -/
def Moved (P : Program) (ops : Array Oper) (Q : Exit → Act → World → Prop) (fuel : Nat) (l : Array Bool) (b : Act) (S : World → Prop) (i : Nat) (d : Option Tmp) (v : Value) (w' : World) : Prop :=
  ∃ S', Stays S' ∧ ((∀ x, S' x → S x) ∨ waitsB ops l i = true) ∧ S' w' ∧ Way P ops Q fuel (l.setIfInBounds i true) (b.put d v) S'
theorem Moved.keep {P : Program} {ops : Array Oper} {Q : Exit → Act → World → Prop} {fuel : Nat} {l : Array Bool} {b : Act} {S : World → Prop} {i : Nat} {d : Option Tmp} {v : Value} {w' : World} (S' : World → Prop) (hst : Stays S') (hle : ∀ x, S' x → S x) (h : S' w') (hw : Way P ops Q fuel (l.setIfInBounds i true) (b.put d v) S') : Moved P ops Q fuel l b S i d v w' := ⟨S', hst, .inl hle, h, hw⟩
theorem Moved.turn {P : Program} {ops : Array Oper} {Q : Exit → Act → World → Prop} {fuel : Nat} {l : Array Bool} {b : Act} {S : World → Prop} {i : Nat} {d : Option Tmp} {v : Value} {w' : World} (S' : World → Prop) (hst : Stays S') (hle : waitsB ops l i = true) (h : S' w') (hw : Way P ops Q fuel (l.setIfInBounds i true) (b.put d v) S') : Moved P ops Q fuel l b S i d v w' := ⟨S', hst, .inr hle, h, hw⟩
/-- Just one may come up, and it writes. -/
theorem Way.move (i : Nat) {o : Oper} (ho : opAt ops.toList i = some o) (hr : Region.ready .any ops l = [i]) (hw : Region.wanted o (yielded ops b.tmps) = true)
    (hg : ∀ w, S w → MGives P (Moved P ops Q fuel l b S i o.dst) ((execOp b.eval o).run P w)) : Way P ops Q (fuel + 1) l b S :=
  .inr (.inr ⟨(by rw [hr]; simp), fun j hj => by
    rw [hr] at hj
    have hji : j = i := by simpa using hj
    subst hji
    exact ⟨o, opAt_arr ho, hw, hg⟩⟩)
/-- Two may come up, and both write. -/
theorem Way.move2 (i k : Nat) {o p : Oper} (ho : opAt ops.toList i = some o) (hp : opAt ops.toList k = some p) (hr : Region.ready .any ops l = [i, k]) (hw : Region.wanted o (yielded ops b.tmps) = true) (hwp : Region.wanted p (yielded ops b.tmps) = true)
    (hg : ∀ w, S w → MGives P (Moved P ops Q fuel l b S i o.dst) ((execOp b.eval o).run P w))
    (hgp : ∀ w, S w → MGives P (Moved P ops Q fuel l b S k p.dst) ((execOp b.eval p).run P w)) : Way P ops Q (fuel + 1) l b S :=
  .inr (.inr ⟨(by rw [hr]; simp), fun j hj => by
    rw [hr] at hj
    rcases List.mem_cons.1 hj with rfl | hj
    · exact ⟨o, opAt_arr ho, hw, hg⟩
    · have hjk : j = k := by simpa using hj
      subst hjk
      exact ⟨p, opAt_arr hp, hwp, hgp⟩⟩)
/-- Three may come up, and all write. -/
theorem Way.move3 (i k m : Nat) {o p q : Oper} (ho : opAt ops.toList i = some o) (hp : opAt ops.toList k = some p) (hq : opAt ops.toList m = some q) (hr : Region.ready .any ops l = [i, k, m])
    (hw : Region.wanted o (yielded ops b.tmps) = true) (hwp : Region.wanted p (yielded ops b.tmps) = true) (hwq : Region.wanted q (yielded ops b.tmps) = true)
    (hg : ∀ w, S w → MGives P (Moved P ops Q fuel l b S i o.dst) ((execOp b.eval o).run P w))
    (hgp : ∀ w, S w → MGives P (Moved P ops Q fuel l b S k p.dst) ((execOp b.eval p).run P w))
    (hgq : ∀ w, S w → MGives P (Moved P ops Q fuel l b S m q.dst) ((execOp b.eval q).run P w)) : Way P ops Q (fuel + 1) l b S :=
  .inr (.inr ⟨(by rw [hr]; simp), fun j hj => by
    rw [hr] at hj
    rcases List.mem_cons.1 hj with rfl | hj
    · exact ⟨o, opAt_arr ho, hw, hg⟩
    · rcases List.mem_cons.1 hj with rfl | hj
      · exact ⟨p, opAt_arr hp, hwp, hgp⟩
      · have hjm : j = m := by simpa using hj
        subst hjm
        exact ⟨q, opAt_arr hq, hwq, hgq⟩⟩)
end
theorem Stays.below {B : Nat} {w0 : World} (hB : B ≤ w0.heap.size) : Stays fun w => w0.heap.size ≤ w.heap.size ∧ Below B w0 w := fun w w' h hb => ⟨Nat.le_trans h.1 hb.size, h.2.trans (hb.mono (Nat.le_trans hB h.1))⟩
end Go.Proofs.YtgihkmofpncobaaDoor
