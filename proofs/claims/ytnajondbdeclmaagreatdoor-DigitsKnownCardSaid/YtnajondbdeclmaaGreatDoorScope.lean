/- A scope with several labels. -/
import Derived.Scope
import Derived.WalkMore
set_option linter.unusedVariables false
namespace Go.Proofs.YtnajondbdeclmaaGreatDoor

/-- As Q; by a goto to a label of the code: what holds there, and the label's number of steps has gone down. -/
def jumps (c : Code) (J : Nat → Act → World → Prop) (M : Nat → Nat) (B : Nat) (Q : Exit → Act → World → Prop) : Exit → Act → World → Prop
  | .goto l, a, w => (∃ rest, findLabel c l = some rest) ∧ J l a w ∧ M l < B
  | e, a, w => Q e a w
section
variable {c : Code} {J : Nat → Act → World → Prop} {M : Nat → Nat} {B : Nat} {Q : Exit → Act → World → Prop} {a : Act} {w : World}
theorem jumps_normal : jumps c J M B Q .normal a w = Q .normal a w := rfl
theorem jumps_exit (id : Nat) : jumps c J M B Q (.exit id) a w = Q (.exit id) a w := rfl
theorem jumps_ret : jumps c J M B Q .ret a w = Q .ret a w := rfl
theorem jumps_panic (ch : List PanicEntry) : jumps c J M B Q (.panic ch) a w = Q (.panic ch) a w := rfl

theorem wp_scope_labels {P : Program} (J : Nat → Act → World → Prop) (M : Nat → Nat) (B : Nat)
    (first : c.wp P (jumps c J M B Q) a w)
    (pass : ∀ l rest a w, findLabel c l = some rest → J l a w → rest.wp P (jumps c J M (M l) Q) a w) : (Code.scope c).wp P Q a w := by
  intro b k cs
  have hg : ∀ l rest, findLabel c l = some rest → gotoIn l (.inScope c :: k) = some (.code rest :: .inScope c :: k) := fun l rest hf => by simp [gotoIn, hf]
  have key : ∀ n l rest a w, M l = n → findLabel c l = some rest → J l a w → ∃ e a' w', Q e a' w' ∧ Arrives P (lone (b.at a (.code rest :: .inScope c :: k)) cs w) b k cs e a' w' := by
    intro n
    induction n using Nat.strongRecOn with
    | _ n ih =>
      intro l rest a w hn hf hJ
      obtain ⟨e, a₁, w₁, hq, harr⟩ := pass l rest a w hf hJ b (.inScope c :: k) cs
      cases e with
      | normal => exact ⟨.normal, a₁, w₁, hq, Steps.trans harr (.one step_inScope)⟩
      | exit id => exact ⟨.exit id, a₁, w₁, hq, fun k' hk => harr k' (by simp [exitTo, hk])⟩
      | goto l' =>
        obtain ⟨⟨rest', hf'⟩, hJ', hlt⟩ := hq
        obtain ⟨e₂, a₂, w₂, hq₂, harr₂⟩ := ih (M l') (by omega) l' rest' a₁ w₁ rfl hf' hJ'
        exact ⟨e₂, a₂, w₂, hq₂, .of_steps (harr _ (hg l' rest' hf')) harr₂⟩
      | ret => exact ⟨_, a₁, w₁, hq, harr⟩
      | panic ch => exact ⟨_, a₁, w₁, hq, harr⟩
      | outgrown => exact ⟨_, a₁, w₁, hq, harr⟩
  obtain ⟨e, a₁, w₁, hq, harr⟩ := first b (.inScope c :: k) cs
  cases e with
  | normal => exact ⟨.normal, a₁, w₁, hq, .head step_scope (Steps.trans harr (.one step_inScope))⟩
  | exit id => exact ⟨.exit id, a₁, w₁, hq, fun k' hk => .head step_scope (harr k' (by simp [exitTo, hk]))⟩
  | goto l =>
    obtain ⟨⟨rest, hf⟩, hJ', hlt⟩ := hq
    obtain ⟨e₂, a₂, w₂, hq₂, harr₂⟩ := key (M l) l rest a₁ w₁ rfl hf hJ'
    exact ⟨e₂, a₂, w₂, hq₂, .of_steps (.head step_scope (harr _ (hg l rest hf))) harr₂⟩
  | ret => exact ⟨_, a₁, w₁, hq, .of_steps (.one step_scope) harr⟩
  | panic ch => exact ⟨_, a₁, w₁, hq, .of_steps (.one step_scope) harr⟩
  | outgrown => exact ⟨_, a₁, w₁, hq, .of_steps (.one step_scope) harr⟩
theorem wp_mono_Q {P : Program} {Q Q' : Exit → Act → World → Prop} (h : ∀ e a w, Q e a w → Q' e a w) {d : Code} (hd : d.wp P Q a w) : d.wp P Q' a w := fun b k cs =>
  let ⟨e, a', w', q, r⟩ := hd b k cs; ⟨e, a', w', h _ _ _ q, r⟩
theorem jumps_mono {B' : Nat} (hB : B ≤ B') (e : Exit) (a : Act) (w : World) (h : jumps c J M B Q e a w) : jumps c J M B' Q e a w := by
  cases e <;> first | exact h | (obtain ⟨h1, h2, h3⟩ := h; exact ⟨h1, h2, Nat.lt_of_lt_of_le h3 hB⟩)
theorem wp_back {P : Program} {K : Act → World → Prop} {d : Code} {Q' : Exit → Act → World → Prop} (h : ∀ a w, Code.wp P d Q' a w → K a w) (g : Code.wp P d Q' a w) : K a w := h _ _ g
/-- Labels to which one jumps, or falls, downwards alone; d is what stands behind a label. -/
theorem wp_scope_down {P : Program} (J : Nat → Act → World → Prop) (M : Nat → Nat) (B : Nat)
    (form : ∀ l rest a w, findLabel c l = some rest → J l a w → ∃ d, rest = Code.seq .skip d)
    (first : (∀ l d a w, M l < B → findLabel c l = some (Code.seq .skip d) → J l a w → d.wp P (jumps c J M B Q) a w) → c.wp P (jumps c J M B Q) a w)
    (pass : ∀ l d a w, findLabel c l = some (Code.seq .skip d) → J l a w → (∀ l' d' a' w', M l' < M l → findLabel c l' = some (Code.seq .skip d') → J l' a' w' → d'.wp P (jumps c J M (M l) Q) a' w') → d.wp P (jumps c J M (M l) Q) a w) : (Code.scope c).wp P Q a w := by
  have all : ∀ n l d a w, M l = n → findLabel c l = some (Code.seq .skip d) → J l a w → d.wp P (jumps c J M (M l) Q) a w := by
    intro n
    induction n using Nat.strongRecOn with
    | _ n ih =>
      intro l d a w hn hf hJ
      exact pass l d a w hf hJ fun l' d' a' w' hlt hf' hJ' => wp_mono_Q (jumps_mono (Nat.le_of_lt hlt)) (ih (M l') (by omega) l' d' a' w' rfl hf' hJ')
  refine wp_scope_labels J M B (first fun l d a w hlt hf hJ => wp_mono_Q (jumps_mono (Nat.le_of_lt hlt)) (all _ l d a w rfl hf hJ)) fun l rest a w hf hJ => ?_
  obtain ⟨d, rfl⟩ := form l rest a w hf hJ
  exact wp_seq (wp_skip (all _ l d a w rfl hf hJ))
end
end Go.Proofs.YtnajondbdeclmaaGreatDoor
