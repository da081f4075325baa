/- Regions that draw their order: boxes that are made in any order, at once. -/
import Derived.Test.YtgihkmofpncobaaDoorNRW
namespace Go.Proofs.YtgihkmofpncobaaDoor
open Go.RowKit
set_option linter.unusedSimpArgs false
set_option linter.unusedVariables false

/-- A box, whatever it holds. -/
def BlkU (w : World) (g : Nat) (t : TypeId) : Prop := ∃ u, Blk w g t #[u]
theorem BlkU.below {w w' : World} {g : Nat} {t : TypeId} (h : BlkU w g t) (hb : Below w.heap.size w w') : BlkU w' g t := by
  obtain ⟨u, h⟩ := h; exact ⟨u, h.below hb h.lt⟩
theorem BlkU.lt {w : World} {g : Nat} {t : TypeId} (h : BlkU w g t) : g < w.heap.size := by
  obtain ⟨u, h⟩ := h; exact h.lt
theorem BlkU.far {w : World} {g : Nat} {t : TypeId} (h : BlkU w g t) {p : Addr} (hp : g ≠ p.block) (v : Value) : BlkU (w.setCell p v) g t := by
  obtain ⟨u, h⟩ := h; exact ⟨u, h.far hp v⟩
theorem BlkU.set {w : World} {g : Nat} {t : TypeId} (h : BlkU w g t) (v : Value) : Blk (w.setCell ⟨g, 0, none⟩ v) g t #[v] := by
  obtain ⟨u, h⟩ := h; exact h.set1 0 v
/-- Whichever of R has been done, just the others may come up. -/
def readyAllB (ops : Array Oper) : Nat → List Nat → Array Bool → Bool
  | 0, _, _ => true
  | n + 1, R, l => decide (Region.ready .any ops l = R) && R.all (fun r => readyAllB ops n (R.erase r) (l.setIfInBounds r true))
theorem set_comm (l : Array Bool) (i j : Nat) : (l.setIfInBounds i true).setIfInBounds j true = (l.setIfInBounds j true).setIfInBounds i true := by
  apply Array.ext_getElem?
  intro k
  simp only [Array.getElem?_setIfInBounds, Array.size_setIfInBounds]
  by_cases h : j = k <;> by_cases h' : i = k <;> simp [h, h']
theorem put_comm (b : Act) (i j : Tmp) (u v : Value) (h : i ≠ j) : (b.put (some i) u).put (some j) v = (b.put (some j) v).put (some i) u := by
  unfold Act.put
  simp only [Act.mk.injEq, and_true]
  apply Array.ext_getElem?
  intro k
  simp only [Array.getElem?_setIfInBounds, Array.size_setIfInBounds]
  by_cases h3 : j = k
  · have h4 : i ≠ k := by rw [← h3]; exact h
    simp [h3, h4]
  · simp [h3]
theorem foldl_erase {α : Type} {f : α → Nat → α} {R : List Nat} {r : Nat} (hr : r ∈ R) (hc : ∀ x ∈ R, ∀ y ∈ R, ∀ z, f (f z x) y = f (f z y) x) (z : α) : (R.erase r).foldl f (f z r) = R.foldl f z := by
  have hp := List.perm_cons_erase hr
  have := List.Perm.foldl_eq' hp (f := f) (fun x hx y hy z => (hc x hx y hy z)) z
  rw [this]; rfl
theorem Way.allocs {P : Program} {ops : Array Oper} {Q : Exit → Act → World → Prop} (z : Value) (tt : Nat → TypeId) (dd : Nat → Tmp) (fuel : Nat) :
    ∀ (n : Nat) (R : List Nat) (l : Array Bool) (b : Act) (S : World → Prop) (B : Nat),
      R.length = n → R.Nodup → readyAllB ops n R l = true →
      (∀ r ∈ R, ∃ o, ops[r]? = some o ∧ o.guard = none ∧ o.dst = some (dd r) ∧ ∀ ρ w, (execOp ρ o).run P w = .ok (.value (.pointer (some ⟨w.heap.size, 0, none⟩))) (w.alloc (.cells #[z] (tt r)))) →
      (∀ r ∈ R, ∀ s ∈ R, dd r = dd s → r = s) → Stays S → (∀ w, S w → B ≤ w.heap.size) →
      (∀ g : Nat → Nat, (∀ r ∈ R, B ≤ g r) → (∀ r ∈ R, ∀ s ∈ R, g r = g s → r = s) →
        Way P ops Q fuel (R.foldl (fun l r => l.setIfInBounds r true) l) (R.foldl (fun b r => b.put (some (dd r)) (.pointer (some ⟨g r, 0, none⟩))) b) (fun w => S w ∧ ∀ r ∈ R, BlkU w (g r) (tt r))) →
      Way P ops Q (fuel + n) l b S := by
  intro n
  induction n with
  | zero =>
    intro R l b S B hl hn hr ho hd hst hB hrest
    obtain rfl : R = [] := List.eq_nil_of_length_eq_zero hl
    have h := hrest (fun _ => 0) (fun r hr => by cases hr) (fun r hr => by cases hr)
    have e : (fun w => S w ∧ ∀ r ∈ ([] : List Nat), BlkU w ((fun _ => 0) r) (tt r)) = S := by
      funext w; exact propext ⟨fun h => h.1, fun h => ⟨h, fun r hr => by cases hr⟩⟩
    rw [e] at h
    exact h
  | succ n ih =>
    intro R l b S B hl hn hr ho hd hst hB hrest
    unfold readyAllB at hr
    rw [Bool.and_eq_true, List.all_eq_true] at hr
    obtain ⟨hr1, hr2⟩ := hr
    have hr1 := of_decide_eq_true hr1
    refine .inr (.inr ⟨by rw [hr1]; rintro rfl; simp at hl, fun i hi => ?_⟩)
    rw [hr1] at hi
    obtain ⟨o, hoi, hg, hdst, hrun⟩ := ho i hi
    refine ⟨o, hoi, by simp [Region.wanted, hg], fun w hS => ?_⟩
    rw [hrun]
    show ∃ S', _ ∧ _ ∧ _ ∧ _
    have hb := below_new w (.cells #[z] (tt i))
    refine ⟨fun w' => S w' ∧ BlkU w' w.heap.size (tt i), fun w1 w2 h hb => ⟨hst w1 w2 h.1 hb, h.2.below hb⟩, .inl fun x h => h.1, ⟨hst _ _ hS hb, _, Blk.new _ _ _⟩, ?_⟩
    have hsub : ∀ x, x ∈ R.erase i → x ∈ R := fun x hx => List.mem_of_mem_erase hx
    have hne : ∀ x, x ∈ R.erase i → x ≠ i := fun x hx => by
      rintro rfl
      exact (List.Nodup.not_mem_erase hn) hx
    refine ih (R.erase i) (l.setIfInBounds i true) (b.put o.dst (.pointer (some ⟨w.heap.size, 0, none⟩))) _ (w.heap.size + 1) (by rw [List.length_erase_of_mem hi]; omega) (hn.erase i) (hr2 i hi) (fun r hr => ho r (hsub r hr)) (fun r hr s hs => hd r (hsub r hr) s (hsub s hs))
      (fun w1 w2 h hb => ⟨hst w1 w2 h.1 hb, h.2.below hb⟩) (fun w' h => h.2.lt) (fun g hg1 hg2 => ?_)
    have h := hrest (fun x => if x = i then w.heap.size else g x) (fun r hr => by
        by_cases h : r = i
        · simp only [h, if_pos]; exact hB w hS
        · have hre : r ∈ R.erase i := (List.mem_erase_of_ne h).2 hr
          simp only [h, if_neg, if_false]
          have := hg1 r hre; have := hB w hS; omega) (fun r hr s hs he => by
        by_cases h : r = i
        · by_cases h' : s = i
          · rw [h, h']
          · have hse : s ∈ R.erase i := (List.mem_erase_of_ne h').2 hs
            simp only [h, h', if_true, if_false] at he
            have := hg1 s hse; omega
        · have hre : r ∈ R.erase i := (List.mem_erase_of_ne h).2 hr
          by_cases h' : s = i
          · simp only [h, h', if_true, if_false] at he
            have := hg1 r hre; omega
          · have hse : s ∈ R.erase i := (List.mem_erase_of_ne h').2 hs
            simp only [h, h', if_false] at he
            exact hg2 r hre s hse he)
    rw [hdst]
    have e1 : (R.erase i).foldl (fun l r => l.setIfInBounds r true) (l.setIfInBounds i true) = R.foldl (fun l r => l.setIfInBounds r true) l := foldl_erase (f := fun (l : Array Bool) (r : Nat) => l.setIfInBounds r true) hi (fun x _ y _ z => set_comm z x y) l
    have e2 : (R.erase i).foldl (fun b r => b.put (some (dd r)) (.pointer (some ⟨g r, 0, none⟩))) (b.put (some (dd i)) (.pointer (some ⟨w.heap.size, 0, none⟩))) = R.foldl (fun b r => b.put (some (dd r)) (.pointer (some ⟨(if r = i then w.heap.size else g r), 0, none⟩))) b := by
      rw [← foldl_erase (f := fun (b : Act) (r : Nat) => b.put (some (dd r)) (.pointer (some ⟨(if r = i then w.heap.size else g r), 0, none⟩))) hi (fun x hx y hy z => by
        by_cases hxy : x = y
        · rw [hxy]
        · exact put_comm z (dd x) (dd y) _ _ (fun h => hxy (hd x hx y hy h))) b]
      simp only [if_true]
      have hcong : ∀ (L : List Nat) (c : Act), (∀ x ∈ L, x ≠ i) → L.foldl (fun b r => b.put (some (dd r)) (.pointer (some ⟨g r, 0, none⟩))) c = L.foldl (fun b r => b.put (some (dd r)) (.pointer (some ⟨(if r = i then w.heap.size else g r), 0, none⟩))) c := by
        intro L
        induction L with
        | nil => intro c _; rfl
        | cons x L ihL =>
          intro c hL
          simp only [List.foldl_cons]
          rw [if_neg (hL x List.mem_cons_self)]
          exact ihL _ (fun y hy => hL y (List.mem_cons_of_mem _ hy))
      exact hcong _ _ hne
    rw [e1, e2]
    have e3 : (fun w' => (S w' ∧ BlkU w' w.heap.size (tt i)) ∧ ∀ r ∈ R.erase i, BlkU w' (g r) (tt r)) = (fun w' => S w' ∧ ∀ r ∈ R, BlkU w' (if r = i then w.heap.size else g r) (tt r)) := by
      funext w'
      refine propext ⟨fun h => ⟨h.1.1, fun r hr => ?_⟩, fun h => ⟨⟨h.1, ?_⟩, fun r hr => ?_⟩⟩
      · by_cases hri : r = i
        · rw [if_pos hri, hri]; exact h.1.2
        · rw [if_neg hri]; exact h.2 r ((List.mem_erase_of_ne hri).2 hr)
      · have := h.2 i hi; rwa [if_pos rfl] at this
      · have := h.2 r (hsub r hr); rwa [if_neg (hne r hr)] at this
    rw [e3]
    exact h
def sel2 {α : Type} (i : Nat) (a b : α) (r : Nat) : α := if r = i then a else b
theorem sel2_0 {α : Type} (i j : Nat) (a b : α)  : sel2 i a b i = a := by
  unfold sel2
  rw [if_pos rfl]
theorem sel2_1 {α : Type} (i j : Nat) (a b : α) (h0 : j ≠ i) : sel2 i a b j = b := by
  unfold sel2
  rw [if_neg h0]
theorem Way.allocs2 {P : Program} {ops : Array Oper} {Q : Exit → Act → World → Prop} {l : Array Bool} {b : Act} {S : World → Prop} {fuel : Nat} (z : Value) (B i j : Nat) (ti tj : TypeId) (di dj : Tmp)
    (hr : readyAllB ops 2 [i, j] l = true) (hn : j ≠ i) (hdn : dj ≠ di)
    (hi : ∃ o, ops[i]? = some o ∧ o.guard = none ∧ o.dst = some di ∧ ∀ ρ w, (execOp ρ o).run P w = .ok (.value (.pointer (some ⟨w.heap.size, 0, none⟩))) (w.alloc (.cells #[z] ti)))
    (hj : ∃ o, ops[j]? = some o ∧ o.guard = none ∧ o.dst = some dj ∧ ∀ ρ w, (execOp ρ o).run P w = .ok (.value (.pointer (some ⟨w.heap.size, 0, none⟩))) (w.alloc (.cells #[z] tj)))
    (hst : Stays S) (hB : ∀ w, S w → B ≤ w.heap.size)
    (h : ∀ (gi gj : Nat), B ≤ gi → B ≤ gj → gi ≠ gj → ∀ S2 : World → Prop, (∀ w, S2 w ↔ (S w ∧ BlkU w gi ti ∧ BlkU w gj tj)) → Way P ops Q fuel ((l.setIfInBounds i true).setIfInBounds j true) ((b.put (some di) (.pointer (some ⟨gi, 0, none⟩))).put (some dj) (.pointer (some ⟨gj, 0, none⟩))) S2) : Way P ops Q (fuel + 2) l b S := by
  have nij := hn
  have mij := hdn
  have eti : (sel2 i ti tj) i = ti := sel2_0 i j ti tj 
  have edi : (sel2 i di dj) i = di := sel2_0 i j di dj 
  have etj : (sel2 i ti tj) j = tj := sel2_1 i j ti tj nij
  have edj : (sel2 i di dj) j = dj := sel2_1 i j di dj nij
  have hnd : [i, j].Nodup := by
    simp only [List.nodup_cons, List.mem_cons, List.not_mem_nil, or_false, not_or, List.nodup_nil, and_true, not_false_eq_true]
    omega
  refine Way.allocs z (sel2 i ti tj) (sel2 i di dj) fuel 2 [i, j] l b S B rfl hnd hr (fun r hr => ?_) (fun r hr s hs he => ?_) hst hB (fun g hg1 hg2 => ?_)
  · simp only [List.mem_cons, List.not_mem_nil, or_false] at hr
    rcases hr with hh | hh
    · rw [hh, eti, edi]; exact hi
    · rw [hh, etj, edj]; exact hj
  · simp only [List.mem_cons, List.not_mem_nil, or_false] at hr hs
    rcases hr with hh | hh <;> rcases hs with kk | kk <;> rw [hh, kk] at he <;> rw [hh, kk] <;> simp only [edi, edj] at he <;> first | rfl | exact absurd he (by assumption) | exact absurd he.symm (by assumption)
  · have hh := h (g i) (g j) (hg1 i (by simp)) (hg1 j (by simp)) (fun he => by have := hg2 i (by simp) j (by simp) he; omega) _ (fun w => Iff.rfl)
    simp only [List.foldl_cons, List.foldl_nil, edi, edj]
    have e9 : (fun w => S w ∧ ∀ r ∈ [i, j], BlkU w (g r) ((sel2 i ti tj) r)) = (fun w => S w ∧ BlkU w (g i) ti ∧ BlkU w (g j) tj) := by
      funext w
      simp only [List.forall_mem_cons, List.not_mem_nil, false_imp_iff, implies_true, and_true, eti, etj]
    rw [e9]
    exact hh
def sel4 {α : Type} (i j k : Nat) (a b c d : α) (r : Nat) : α := if r = i then a else if r = j then b else if r = k then c else d
theorem sel4_0 {α : Type} (i j k m : Nat) (a b c d : α)  : sel4 i j k a b c d i = a := by
  unfold sel4
  rw [if_pos rfl]
theorem sel4_1 {α : Type} (i j k m : Nat) (a b c d : α) (h0 : j ≠ i) : sel4 i j k a b c d j = b := by
  unfold sel4
  rw [if_neg h0, if_pos rfl]
theorem sel4_2 {α : Type} (i j k m : Nat) (a b c d : α) (h0 : k ≠ i) (h1 : k ≠ j) : sel4 i j k a b c d k = c := by
  unfold sel4
  rw [if_neg h0, if_neg h1, if_pos rfl]
theorem sel4_3 {α : Type} (i j k m : Nat) (a b c d : α) (h0 : m ≠ i) (h1 : m ≠ j) (h2 : m ≠ k) : sel4 i j k a b c d m = d := by
  unfold sel4
  rw [if_neg h0, if_neg h1, if_neg h2]
theorem Way.allocs4 {P : Program} {ops : Array Oper} {Q : Exit → Act → World → Prop} {l : Array Bool} {b : Act} {S : World → Prop} {fuel : Nat} (z : Value) (B i j k m : Nat) (ti tj tk tm : TypeId) (di dj dk dm : Tmp)
    (hr : readyAllB ops 4 [i, j, k, m] l = true) (hn : j ≠ i ∧ k ≠ i ∧ m ≠ i ∧ k ≠ j ∧ m ≠ j ∧ m ≠ k) (hdn : dj ≠ di ∧ dk ≠ di ∧ dm ≠ di ∧ dk ≠ dj ∧ dm ≠ dj ∧ dm ≠ dk)
    (hi : ∃ o, ops[i]? = some o ∧ o.guard = none ∧ o.dst = some di ∧ ∀ ρ w, (execOp ρ o).run P w = .ok (.value (.pointer (some ⟨w.heap.size, 0, none⟩))) (w.alloc (.cells #[z] ti)))
    (hj : ∃ o, ops[j]? = some o ∧ o.guard = none ∧ o.dst = some dj ∧ ∀ ρ w, (execOp ρ o).run P w = .ok (.value (.pointer (some ⟨w.heap.size, 0, none⟩))) (w.alloc (.cells #[z] tj)))
    (hk : ∃ o, ops[k]? = some o ∧ o.guard = none ∧ o.dst = some dk ∧ ∀ ρ w, (execOp ρ o).run P w = .ok (.value (.pointer (some ⟨w.heap.size, 0, none⟩))) (w.alloc (.cells #[z] tk)))
    (hm : ∃ o, ops[m]? = some o ∧ o.guard = none ∧ o.dst = some dm ∧ ∀ ρ w, (execOp ρ o).run P w = .ok (.value (.pointer (some ⟨w.heap.size, 0, none⟩))) (w.alloc (.cells #[z] tm)))
    (hst : Stays S) (hB : ∀ w, S w → B ≤ w.heap.size)
    (h : ∀ (gi gj gk gm : Nat), B ≤ gi → B ≤ gj → B ≤ gk → B ≤ gm → gi ≠ gj → gi ≠ gk → gi ≠ gm → gj ≠ gk → gj ≠ gm → gk ≠ gm → ∀ S2 : World → Prop, (∀ w, S2 w ↔ (S w ∧ BlkU w gi ti ∧ BlkU w gj tj ∧ BlkU w gk tk ∧ BlkU w gm tm)) → Way P ops Q fuel ((((l.setIfInBounds i true).setIfInBounds j true).setIfInBounds k true).setIfInBounds m true) ((((b.put (some di) (.pointer (some ⟨gi, 0, none⟩))).put (some dj) (.pointer (some ⟨gj, 0, none⟩))).put (some dk) (.pointer (some ⟨gk, 0, none⟩))).put (some dm) (.pointer (some ⟨gm, 0, none⟩))) S2) : Way P ops Q (fuel + 4) l b S := by
  obtain ⟨nij, nik, nim, njk, njm, nkm⟩ := hn
  obtain ⟨mij, mik, mim, mjk, mjm, mkm⟩ := hdn
  have eti : (sel4 i j k ti tj tk tm) i = ti := sel4_0 i j k m ti tj tk tm 
  have edi : (sel4 i j k di dj dk dm) i = di := sel4_0 i j k m di dj dk dm 
  have etj : (sel4 i j k ti tj tk tm) j = tj := sel4_1 i j k m ti tj tk tm nij
  have edj : (sel4 i j k di dj dk dm) j = dj := sel4_1 i j k m di dj dk dm nij
  have etk : (sel4 i j k ti tj tk tm) k = tk := sel4_2 i j k m ti tj tk tm nik njk
  have edk : (sel4 i j k di dj dk dm) k = dk := sel4_2 i j k m di dj dk dm nik njk
  have etm : (sel4 i j k ti tj tk tm) m = tm := sel4_3 i j k m ti tj tk tm nim njm nkm
  have edm : (sel4 i j k di dj dk dm) m = dm := sel4_3 i j k m di dj dk dm nim njm nkm
  have hnd : [i, j, k, m].Nodup := by
    simp only [List.nodup_cons, List.mem_cons, List.not_mem_nil, or_false, not_or, List.nodup_nil, and_true, not_false_eq_true]
    omega
  refine Way.allocs z (sel4 i j k ti tj tk tm) (sel4 i j k di dj dk dm) fuel 4 [i, j, k, m] l b S B rfl hnd hr (fun r hr => ?_) (fun r hr s hs he => ?_) hst hB (fun g hg1 hg2 => ?_)
  · simp only [List.mem_cons, List.not_mem_nil, or_false] at hr
    rcases hr with hh | hh | hh | hh
    · rw [hh, eti, edi]; exact hi
    · rw [hh, etj, edj]; exact hj
    · rw [hh, etk, edk]; exact hk
    · rw [hh, etm, edm]; exact hm
  · simp only [List.mem_cons, List.not_mem_nil, or_false] at hr hs
    rcases hr with hh | hh | hh | hh <;> rcases hs with kk | kk | kk | kk <;> rw [hh, kk] at he <;> rw [hh, kk] <;> simp only [edi, edj, edk, edm] at he <;> first | rfl | exact absurd he (by assumption) | exact absurd he.symm (by assumption)
  · have hh := h (g i) (g j) (g k) (g m) (hg1 i (by simp)) (hg1 j (by simp)) (hg1 k (by simp)) (hg1 m (by simp)) (fun he => by have := hg2 i (by simp) j (by simp) he; omega) (fun he => by have := hg2 i (by simp) k (by simp) he; omega) (fun he => by have := hg2 i (by simp) m (by simp) he; omega) (fun he => by have := hg2 j (by simp) k (by simp) he; omega) (fun he => by have := hg2 j (by simp) m (by simp) he; omega) (fun he => by have := hg2 k (by simp) m (by simp) he; omega) _ (fun w => Iff.rfl)
    simp only [List.foldl_cons, List.foldl_nil, edi, edj, edk, edm]
    have e9 : (fun w => S w ∧ ∀ r ∈ [i, j, k, m], BlkU w (g r) ((sel4 i j k ti tj tk tm) r)) = (fun w => S w ∧ BlkU w (g i) ti ∧ BlkU w (g j) tj ∧ BlkU w (g k) tk ∧ BlkU w (g m) tm) := by
      funext w
      simp only [List.forall_mem_cons, List.not_mem_nil, false_imp_iff, implies_true, and_true, eti, etj, etk, etm]
    rw [e9]
    exact hh
theorem RowS.farr {base hi : Nat} {w : World} {rb gp cp gd cd : Nat} {xp xd : List Nat} {P D : List Value} (h : RowS base hi w rb gp cp gd cd xp xd P D) {g i : Nat} (hg : hi ≤ g) {t : TypeId} {cs : Array Value} (hB : Blk w g t cs) (h1 : 35 ≠ t) (h2 : 3 ≠ t) (v : Value) : RowS base hi (w.setCell ⟨g, i, none⟩ v) rb gp cp gd cd xp xd P D := by
  have a1 := h.hrb; have a2 := h.hgp; have a3 := h.hgd
  refine ⟨h.row.far (p := ⟨g, i, none⟩) (by dsimp only; omega) v, own_far h.op (p := ⟨g, i, none⟩) (by show some gp ≠ some g; simp; omega) v, own_far h.od (p := ⟨g, i, none⟩) (by show some gd ≠ some g; simp; omega) v, fun i hx => ?_, fun i hx => ?_, h.small, h.brb, a1, a2, a3, by rw [World.size_setCell]; exact h.le⟩
  · obtain ⟨A, n, c, k1, k2⟩ := h.np i hx; exact ⟨A, n, c, k1, k2.set hB h1 v⟩
  · obtain ⟨A, n, c, k1, k2⟩ := h.nd i hx; exact ⟨A, n, c, k1, k2.set hB h2 v⟩
theorem Blk.apart_far {w : World} {g g' i : Nat} {t t' : TypeId} {cs cs' : Array Value} (h : Blk w g t cs) (h' : Blk w g' t' cs') (hne : t ≠ t') (v : Value) : Blk (w.setCell ⟨g', i, none⟩ v) g t cs := h.far (p := ⟨g', i, none⟩) (h.apart h' hne) v
end Go.Proofs.YtgihkmofpncobaaDoor
