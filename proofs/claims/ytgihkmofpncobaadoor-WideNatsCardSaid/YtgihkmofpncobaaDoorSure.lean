/- Of a region that draws its order: if each operation, run in the order of the text, leaves one value in each world that meets S, and S stays, then so it is in each order. -/
import Derived.Orders
namespace Go.Proofs.YtgihkmofpncobaaDoor
set_option linter.unusedVariables false

/-- What an operation's run comes to: it leaves v, and the world meets S. -/
def SGives (P : Program) (S : World → Prop) (v : Value) : Result Next → Prop
  | .ok (.value u) w' => u = v ∧ S w'
  | .ok .skip w' => undef = v ∧ S w'
  | .ok (.enter f args) w' => Calls P f args w' fun e w'' => e = .returned v ∧ S w''
  | _ => False

theorem SGives_value (P : Program) (S : World → Prop) (v u : Value) (w : World) : SGives P S v (.ok (.value u) w) = (u = v ∧ S w) := rfl
theorem SGives_skip (P : Program) (S : World → Prop) (v : Value) (w : World) : SGives P S v (.ok .skip w) = (undef = v ∧ S w) := rfl
theorem SGives_enter (P : Program) (S : World → Prop) (v : Value) (f : FuncId) (args : Array Value) (w : World) : SGives P S v (.ok (.enter f args) w) = Calls P f args w fun e w'' => e = .returned v ∧ S w'' := rfl
def Sure (P : Program) (ops : Array Oper) (S : World → Prop) (o : Oper) (v : Value) (a : Act) : Prop :=
  (Region.wanted o (yielded ops a.tmps) = true ∧ ∀ w, S w → SGives P S v ((execOp a.eval o).run P w)) ∨
  (Region.wanted o (yielded ops a.tmps) = false ∧ undef = v)

/-- The operations one by one, in the order of the text. -/
def SureL (P : Program) (ops : Array Oper) (S : World → Prop) : List Oper → Act → (Act → Prop) → Prop
  | [], a, K => K a
  | o :: rest, a, K => ∃ v, Sure P ops S o v a ∧ SureL P ops S rest (a.put o.dst v) K

theorem SureL.nil {P : Program} {ops : Array Oper} {S : World → Prop} {a : Act} {K : Act → Prop} (h : K a) : SureL P ops S [] a K := h
theorem SureL.yes {P : Program} {ops : Array Oper} {S : World → Prop} {o : Oper} {rest : List Oper} {a : Act} {K : Act → Prop} {v : Value} (hw : Region.wanted o (yielded ops a.tmps) = true)
    (hg : ∀ w, S w → SGives P S v ((execOp a.eval o).run P w)) (h : SureL P ops S rest (a.put o.dst v) K) : SureL P ops S (o :: rest) a K := ⟨v, .inl ⟨hw, hg⟩, h⟩
theorem SureL.no {P : Program} {ops : Array Oper} {S : World → Prop} {o : Oper} {rest : List Oper} {a : Act} {K : Act → Prop} (hw : Region.wanted o (yielded ops a.tmps) = false)
    (h : SureL P ops S rest (a.put o.dst undef) K) : SureL P ops S (o :: rest) a K := ⟨undef, .inr ⟨hw, rfl⟩, h⟩

/-- The look at the region itself. -/
def sureB (ops : Array Oper) : Bool :=
  Region.noSelect ops &&
  (List.range ops.size).all fun i => match ops[i]? with
    | none => true
    | some o => o.after.all (fun e => !Region.binds .any e || decide (e.on < i)) &&
      (List.range ops.size).all fun k => match (ops[k]?).bind (·.dst) with
        | none => true
        | some d => (i == k || o.dst != some d) && (!(o.looksAt ops).contains d || o.after.any (fun e => Region.binds .any e && e.on == k))

structure SureOk (ops : Array Oper) : Prop where
  sel : ∀ (j : Nat) (o : Oper) cs b, ops[j]? = some o → o.op ≠ .select cs b
  up : ∀ (i : Nat) (o : Oper), ops[i]? = some o → ∀ e ∈ o.after, Region.binds .any e = true → e.on < i
  one : ∀ (i : Nat) (o : Oper) (k : Nat) (p : Oper) (d : Tmp), ops[i]? = some o → ops[k]? = some p → o.dst = some d → p.dst = some d → i = k
  look : ∀ (i : Nat) (o : Oper) (k : Nat) (p : Oper) (d : Tmp), ops[i]? = some o → ops[k]? = some p → p.dst = some d → d ∈ o.looksAt ops → ∃ e ∈ o.after, Region.binds .any e = true ∧ e.on = k

theorem sureB_spec {ops : Array Oper} (h : sureB ops = true) : SureOk ops := by
  unfold sureB at h
  simp only [Bool.and_eq_true, List.all_eq_true, List.mem_range] at h
  obtain ⟨h0, h1⟩ := h
  have lt : ∀ {i : Nat} {o : Oper}, ops[i]? = some o → i < ops.size := fun h => (Array.getElem?_eq_some_iff.1 h).1
  have h2 : ∀ i o, ops[i]? = some o → (∀ e ∈ o.after, Region.binds .any e = true → e.on < i) ∧ ∀ k p d, ops[k]? = some p → p.dst = some d → (i = k ∨ o.dst ≠ some d) ∧ (d ∈ o.looksAt ops → ∃ e ∈ o.after, Region.binds .any e = true ∧ e.on = k) := by
    intro i o hi
    have h := h1 i (lt hi)
    rw [hi] at h
    simp only [Bool.and_eq_true] at h
    refine ⟨fun e he hb => ?_, fun k p d hk hp => ?_⟩
    · have := Array.all_eq_true_iff_forall_mem.1 h.1 e he
      simpa [hb] using this
    · have hh := List.all_eq_true.1 h.2 k (List.mem_range.2 (lt hk))
      rw [hk] at hh
      simp only [Option.bind_some, hp, Bool.and_eq_true, Bool.or_eq_true, beq_iff_eq, bne_iff_ne, Bool.not_eq_true'] at hh
      refine ⟨hh.1, fun hm => ?_⟩
      rcases hh.2 with h3 | h3
      · have : (o.looksAt ops).contains d = true := by simpa using hm
        rw [this] at h3; cases h3
      · obtain ⟨e, he, hb⟩ := Array.any_eq_true'.1 h3
        simp only [Bool.and_eq_true, beq_iff_eq] at hb
        exact ⟨e, he, hb.1, hb.2⟩
  refine ⟨fun j o cs b hj => Region.noSelect_spec h0 j o cs b hj, fun i o hi => (h2 i o hi).1, fun i o k p d hi hk ho hp => ?_, fun i o k p d hi hk hp hm => ((h2 i o hi).2 k p d hk hp).2 hm⟩
  rcases ((h2 i o hi).2 k p d hk hp).1 with h | h
  · exact h
  · exact absurd ho h

/-- The state in which just the operations of L have come up. -/
structure Came (ops : Array Oper) (a0 : Act) (vs : Nat → Value) (L : Nat → Prop) (a : Act) : Prop where
  defers : a.defers = a0.defers
  size : a.tmps.size = a0.tmps.size
  yes : ∀ (k : Nat) (o : Oper) (d : Tmp), ops[k]? = some o → L k → o.dst = some d → d < a0.tmps.size → a.tmps[d]? = some (vs k)
  no : ∀ (t : Tmp), (∀ (k : Nat) (o : Oper), ops[k]? = some o → L k → o.dst ≠ some t) → a.tmps[t]? = a0.tmps[t]?

theorem Came.start {ops : Array Oper} {a0 : Act} {vs : Nat → Value} {L : Nat → Prop} (h : ∀ k o, ops[k]? = some o → ¬ L k) : Came ops a0 vs L a0 :=
  ⟨rfl, rfl, fun k o d hk hl => absurd hl (h k o hk), fun _ _ => rfl⟩

theorem Came.put {ops : Array Oper} (ok : SureOk ops) {a0 : Act} {vs : Nat → Value} {L L' : Nat → Prop} {a : Act} (h : Came ops a0 vs L a) {i : Nat} {o : Oper} (hi : ops[i]? = some o)
    (hL : ∀ k, L' k ↔ L k ∨ k = i) : Came ops a0 vs L' (a.put o.dst (vs i)) := by
  cases ho : o.dst with
  | none =>
    refine ⟨h.defers, h.size, fun k p d hk hl hp hd => ?_, fun t ht => h.no t fun k p hk hl => ht k p hk ((hL k).2 (.inl hl))⟩
    rcases (hL k).1 hl with hl | rfl
    · exact h.yes k p d hk hl hp hd
    · rw [hi] at hk; cases hk; rw [ho] at hp; cases hp
  | some d0 =>
    refine ⟨h.defers, by simp [Act.put, h.size], fun k p d hk hl hp hd => ?_, fun t ht => ?_⟩
    · by_cases hik : k = i
      · subst hik
        rw [hi] at hk; cases hk; rw [ho] at hp; cases hp
        simp [Act.put, h.size, hd]
      · have hne : d0 ≠ d := fun e => hik (ok.one k p i o d hk hi hp (by rw [ho, e]))
        rcases (hL k).1 hl with hl | rfl
        · simp only [Act.put, Array.getElem?_setIfInBounds_ne hne]; exact h.yes k p d hk hl hp hd
        · exact absurd rfl hik
    · have hne : d0 ≠ t := fun e => ht i o hi ((hL i).2 (.inr rfl)) (by rw [ho, e])
      simp only [Act.put, Array.getElem?_setIfInBounds_ne hne]
      exact h.no t fun k p hk hl => ht k p hk ((hL k).2 (.inl hl))

/-- Two states look alike to an operation for which all has come up that it waits for. -/
theorem Came.looks {ops : Array Oper} (ok : SureOk ops) {a0 : Act} {vs : Nat → Value} {L L' : Nat → Prop} {a a' : Act} (h : Came ops a0 vs L a) (h' : Came ops a0 vs L' a') {i : Nat} {o : Oper} (hi : ops[i]? = some o)
    (hd : ∀ e ∈ o.after, Region.binds .any e = true → L e.on ∧ L' e.on) : ∀ t ∈ o.looksAt ops, a.tmps[t]? = a'.tmps[t]? := by
  intro t ht
  by_cases hk : ∃ (k : Nat) (p : Oper), ops[k]? = some p ∧ p.dst = some t
  · obtain ⟨k, p, hk, hp⟩ := hk
    obtain ⟨e, he, hb, rfl⟩ := ok.look i o k p t hi hk hp ht
    obtain ⟨l, l'⟩ := hd e he hb
    by_cases hs : t < a0.tmps.size
    · rw [h.yes _ p t hk l hp hs, h'.yes _ p t hk l' hp hs]
    · rw [Array.getElem?_eq_none (by rw [h.size]; exact Nat.le_of_not_lt hs), Array.getElem?_eq_none (by rw [h'.size]; exact Nat.le_of_not_lt hs)]
  · rw [h.no t fun k p hp hl e => hk ⟨k, p, hp, e⟩, h'.no t fun k p hp hl e => hk ⟨k, p, hp, e⟩]

theorem eval_looks {ops : Array Oper} {o : Oper} {a a' : Act} (hs : ∀ cs b, o.op ≠ .select cs b) (h : ∀ t ∈ o.looksAt ops, a.tmps[t]? = a'.tmps[t]?) : execOp a.eval o = execOp a'.eval o :=
  execOp_congr o hs fun x hx => by
    cases x with
    | tmp t =>
      have := h t (List.mem_append_left _ (List.mem_filterMap.2 ⟨.tmp t, by simpa using hx, rfl⟩))
      simp [Act.eval, Array.getD_eq_getD_getElem?, this]
    | _ => rfl

theorem wanted_looks {ops : Array Oper} {o : Oper} {a a' : Act} (h : ∀ t ∈ o.looksAt ops, a.tmps[t]? = a'.tmps[t]?) : Region.wanted o (yielded ops a.tmps) = Region.wanted o (yielded ops a'.tmps) := by
  unfold Region.wanted
  cases hg : o.guard with
  | none => rfl
  | some gw =>
    obtain ⟨g, want⟩ := gw
    have hy : yielded ops a.tmps g = yielded ops a'.tmps g := by
      unfold yielded
      cases ht : (ops[g]?).bind (·.dst) with
      | none => rfl
      | some t =>
        have := h t (by simp [Oper.looksAt, hg, ht])
        simp only [Option.bind_some, this]
    simp only [hy]

theorem Sure.looks {P : Program} {ops : Array Oper} {S : World → Prop} {o : Oper} {v : Value} {a a' : Act} (hs : ∀ cs b, o.op ≠ .select cs b) (h : ∀ t ∈ o.looksAt ops, a.tmps[t]? = a'.tmps[t]?) (hy : Sure P ops S o v a) :
    Sure P ops S o v a' := by
  unfold Sure at *
  rw [← eval_looks hs h, ← wanted_looks h]
  exact hy

theorem Sure.wpOp {P : Program} {ops : Array Oper} {S : World → Prop} {Q : Exit → Act → World → Prop} {i : Nat} {o : Oper} {v : Value} {a : Act} (hi : ops[i]? = some o) (hy : Sure P ops S o v a)
    {K : Act → World → Prop} {w : World} (hS : S w) (h : ∀ w', S w' → K (a.put o.dst v) w') : wpOp P ops Q i K a w := by
  unfold Go.wpOp
  simp only [hi]
  rcases hy with ⟨hw, hv⟩ | ⟨hw, rfl⟩
  · simp only [hw, if_true]
    refine .inl ?_
    have hh := hv w hS
    unfold Oper.wp
    generalize (execOp a.eval o).run P w = r at *
    cases r with
    | ok n w' =>
      cases n <;> simp only [Oper.upon] <;> simp only [SGives] at hh
      case value u => obtain ⟨rfl, hs⟩ := hh; exact h _ hs
      case skip => obtain ⟨rfl, hs⟩ := hh; exact h _ hs
      case enter f args => exact Calls.mono hh fun e w'' ⟨he, hs⟩ => by subst he; exact h _ hs
    | halt x w' => simp [SGives] at hh
  · simp only [hw, Bool.false_eq_true, if_false]; exact h _ hS

/-- The values, one for each operation. -/
theorem SureL.values {P : Program} {ops : Array Oper} {S : World → Prop} (ok : SureOk ops) {a0 : Act} {K : Act → Prop} :
    ∀ (rest : List Oper) (n : Nat) (vs : Nat → Value) (a : Act), ops.toList.drop n = rest → Came ops a0 vs (· < n) a → (∀ i o, i < n → ops[i]? = some o → ∃ b, Came ops a0 vs (· < i) b ∧ Sure P ops S o (vs i) b) → SureL P ops S rest a K →
      ∃ (us : Nat → Value) (b : Act), Came ops a0 us (· < ops.size) b ∧ K b ∧ ∀ i o, ops[i]? = some o → ∃ c, Came ops a0 us (· < i) c ∧ Sure P ops S o (us i) c := by
  intro rest
  induction rest with
  | nil =>
    intro n vs a hd hc hall h
    have hn : ops.size ≤ n := by
      have : (ops.toList.drop n).length = 0 := by rw [hd]; rfl
      simp at this; omega
    refine ⟨vs, a, ⟨hc.defers, hc.size, fun k o d hk hl => hc.yes k o d hk (by show k < n; have : k < ops.size := hl; omega), fun t ht => hc.no t fun k o hk hl => ht k o hk (Array.getElem?_eq_some_iff.1 hk).1⟩, h, fun i o hi => hall i o (by have := (Array.getElem?_eq_some_iff.1 hi).1; omega) hi⟩
  | cons o rest ih =>
    intro n vs a hd hc hall h
    obtain ⟨v, hv, h⟩ := h
    have hn : ops[n]? = some o := by
      have : (ops.toList.drop n)[0]? = some o := by rw [hd]; rfl
      simpa using this
    let us : Nat → Value := fun k => if k = n then v else vs k
    have same : ∀ k, k ≠ n → us k = vs k := fun k hk => by simp [us, hk]
    have move : ∀ {m : Nat} {b : Act}, m ≤ n → Came ops a0 vs (· < m) b → Came ops a0 us (· < m) b := fun {m b} hm hb =>
      ⟨hb.defers, hb.size, fun k p d hk hl hp hdd => by rw [same k (by have : k < m := hl; omega)]; exact hb.yes k p d hk hl hp hdd, hb.no⟩
    refine ih (n + 1) us (a.put o.dst v) (by rw [← List.drop_drop, hd]; rfl) ?_ ?_ h
    · have := (move (Nat.le_refl n) hc).put ok (L' := (· < n + 1)) hn (fun k => by omega)
      simpa [us] using this
    · intro i p hi hp
      by_cases hin : i = n
      · subst hin
        rw [hn] at hp; cases hp
        exact ⟨a, move (Nat.le_refl _) hc, by simpa [us] using hv⟩
      · obtain ⟨b, hb, hs⟩ := hall i p (by omega) hp
        exact ⟨b, move (by omega) hb, by rw [same i hin]; exact hs⟩

theorem Came.same {ops : Array Oper} {a0 : Act} {vs : Nat → Value} {L L' : Nat → Prop} {a a' : Act} (h : Came ops a0 vs L a) (h' : Came ops a0 vs L' a') (hL : ∀ k o, ops[k]? = some o → L k ∧ L' k) : a = a' := by
  have ht : a.tmps = a'.tmps := by
    apply Array.ext_getElem?
    intro t
    by_cases hk : ∃ (k : Nat) (p : Oper), ops[k]? = some p ∧ p.dst = some t
    · obtain ⟨k, p, hk, hp⟩ := hk
      by_cases hs : t < a0.tmps.size
      · rw [h.yes _ p t hk (hL k p hk).1 hp hs, h'.yes _ p t hk (hL k p hk).2 hp hs]
      · rw [Array.getElem?_eq_none (by rw [h.size]; exact Nat.le_of_not_lt hs), Array.getElem?_eq_none (by rw [h'.size]; exact Nat.le_of_not_lt hs)]
    · rw [h.no t fun k p hp hl e => hk ⟨k, p, hp, e⟩, h'.no t fun k p hp hl e => hk ⟨k, p, hp, e⟩]
  cases a; cases a'
  have hd := h.defers.trans h'.defers.symm
  simp only at ht hd
  rw [ht, hd]

/-- How many have not come up. -/
def lack (listed : Array Bool) : List Nat → Nat
  | [] => 0
  | i :: l => (if listed.getD i true then 0 else 1) + lack listed l

theorem lack_le (listed : Array Bool) (i : Nat) : ∀ l, lack (listed.setIfInBounds i true) l ≤ lack listed l
  | [] => Nat.le_refl _
  | j :: l => by
    have ih := lack_le listed i l
    unfold lack
    by_cases hij : i = j
    · subst hij
      have h1 : (listed.setIfInBounds i true).getD i true = true := by
        by_cases hs : i < listed.size
        · simp [Array.getD_eq_getD_getElem?, hs]
        · simp [Array.getD_eq_getD_getElem?, hs]
      have h2 : (if (listed.setIfInBounds i true).getD i true = true then 0 else 1) = 0 := by rw [if_pos h1]
      rw [h2]; omega
    · rw [getD_set_ne true hij]; omega

theorem lack_lt {listed : Array Bool} {i : Nat} (hi : listed.getD i true = false) : ∀ l, i ∈ l → lack (listed.setIfInBounds i true) l < lack listed l
  | j :: l, hm => by
    unfold lack
    have hs : i < listed.size := by
      rcases Nat.lt_or_ge i listed.size with h | h
      · exact h
      · simp [Array.getD_eq_getD_getElem?, h] at hi
    by_cases hij : i = j
    · subst hij
      have : (listed.setIfInBounds i true).getD i true = true := by simp [Array.getD_eq_getD_getElem?, hs]
      rw [this, hi]
      have := lack_le listed i l
      simp; omega
    · rw [getD_set_ne true hij]
      rcases List.mem_cons.1 hm with rfl | hm
      · exact absurd rfl hij
      · have := lack_lt hi l hm; omega

theorem lack_zero {listed : Array Bool} {i : Nat} : ∀ {l : List Nat}, lack listed l = 0 → i ∈ l → listed.getD i true = true
  | j :: l, h, hm => by
    unfold lack at h
    rcases List.mem_cons.1 hm with rfl | hm
    · cases hh : listed.getD i true
      · rw [hh] at h; simp at h
      · rfl
    · exact lack_zero (l := l) (by omega) hm

theorem wpAny_sure {P : Program} {ops : Array Oper} {S : World → Prop} {Q : Exit → Act → World → Prop} (ok : SureOk ops) {a0 b : Act} {us : Nat → Value} (hb : Came ops a0 us (· < ops.size) b)
    (hall : ∀ i o, ops[i]? = some o → ∃ c, Came ops a0 us (· < i) c ∧ Sure P ops S o (us i) c) (hQ : ∀ w, S w → Q .normal b w) :
    ∀ (fuel : Nat) (listed : Array Bool) (a : Act) (w : World), listed.size = ops.size → lack listed (List.range ops.size) ≤ fuel → Came ops a0 us (fun k => listed.getD k false = true) a → S w → wpAny P .any ops Q fuel listed a w := by
  have done : ∀ (listed : Array Bool) (a : Act) (w : World), listed.size = ops.size → Came ops a0 us (fun k => listed.getD k false = true) a → S w → (∀ i, i < ops.size → listed.getD i true = true) → Q .normal a w := by
    intro listed a w hsz hc hS hl
    have := hc.same hb fun k o hk => by
      have hlt := (Array.getElem?_eq_some_iff.1 hk).1
      refine ⟨?_, hlt⟩
      have := hl k hlt
      simpa [Array.getD_eq_getD_getElem?, hsz, hlt] using this
    rw [this]; exact hQ w hS
  have stuck : ∀ (listed : Array Bool), listed.size = ops.size → Region.ready .any ops listed = [] → ∀ n, ∀ i, i < n → i < ops.size → listed.getD i true = true := by
    intro listed hsz hr n
    induction n with
    | zero => intro i hi; omega
    | succ n ih =>
      intro i hi hlt
      cases hh : listed.getD i true
      · exfalso
        have : i ∈ Region.ready .any ops listed := by
          rw [mem_ready]
          refine ⟨hh, ops[i], Array.getElem?_eq_getElem hlt, fun e he hbd => ?_⟩
          have hup := ok.up i ops[i] (Array.getElem?_eq_getElem hlt) e he hbd
          have := ih e.on (by omega) (by omega)
          simpa [Array.getD_eq_getD_getElem?, hsz, (by omega : e.on < ops.size)] using this
        rw [hr] at this; cases this
      · rfl
  intro fuel
  induction fuel with
  | zero =>
    intro listed a w hsz hl hc hS
    have hz : ∀ i, i < ops.size → listed.getD i true = true := fun i hi => lack_zero (Nat.le_zero.1 hl) (List.mem_range.2 hi)
    refine ⟨?_, done listed a w hsz hc hS hz⟩
    cases hr : Region.ready .any ops listed with
    | nil => rfl
    | cons x xs =>
      have : x ∈ Region.ready .any ops listed := by rw [hr]; exact List.mem_cons_self
      rw [mem_ready] at this
      obtain ⟨h0, o, ho, _⟩ := this
      have := hz x (Array.getElem?_eq_some_iff.1 ho).1
      rw [h0] at this; cases this
  | succ fuel ih =>
    intro listed a w hsz hl hc hS
    refine ⟨fun hr => done listed a w hsz hc hS fun i hi => stuck listed hsz hr (i + 1) i (by omega) hi, fun i hi => ?_⟩
    obtain ⟨h0, o, ho, hdep⟩ := mem_ready.1 hi
    obtain ⟨c, hcc, hs⟩ := hall i o ho
    have hlt := (Array.getElem?_eq_some_iff.1 ho).1
    have hs' : Sure P ops S o (us i) a := hs.looks (fun cs b' => ok.sel i o cs b' ho) (hcc.looks ok hc ho fun e he hbd => ⟨ok.up i o ho e he hbd, hdep e he hbd⟩)
    refine hs'.wpOp ho hS fun w' hS' => ih _ _ w' (by simpa using hsz) (by have := lack_lt h0 (List.range ops.size) (List.mem_range.2 hlt); omega) ?_ hS'
    refine hc.put ok ho fun k => ?_
    by_cases hk : i = k
    · subst hk; simp [Array.getD_eq_getD_getElem?, hsz, hlt]
    · rw [getD_set_ne false hk]; simp [Ne.symm hk]

/-- A region that draws its order, walked once in the order of the text. -/
theorem wp_region_sure {P : Program} {id : Nat} {ops : Array Oper} {S : World → Prop} {Q : Exit → Act → World → Prop} {a : Act} {w : World} (hm : P.follows .mixedOrders = true) (hok : sureB ops = true) (hS : S { w with drawn := w.drawn + 1 })
    (h : SureL P ops S ops.toList a fun b => ∀ w', S w' → Q .normal b w') : (Code.region id ops true).wp P Q a w := by
  have ok := sureB_spec hok
  obtain ⟨us, b, hb, hQ, hall⟩ := SureL.values ok (a0 := a) ops.toList 0 (fun _ => undef) a (by simp) (Came.start fun k o _ h => by have : k < 0 := h; omega) (fun i o hi => by omega) h
  refine wp_region_any hm (wpAny_sure ok hb hall hQ ops.size _ a _ (by simp) ?_ (Came.start fun k o hk => ?_) hS)
  · have : ∀ l : List Nat, lack (Array.replicate ops.size false) l ≤ l.length := by
      intro l
      induction l with
      | nil => exact Nat.le_refl _
      | cons i l ih => unfold lack; split <;> simp <;> omega
    simpa using this (List.range ops.size)
  · have hlt := (Array.getElem?_eq_some_iff.1 hk).1
    simp [Array.getD_eq_getD_getElem?, hlt]

end Go.Proofs.YtgihkmofpncobaaDoor
