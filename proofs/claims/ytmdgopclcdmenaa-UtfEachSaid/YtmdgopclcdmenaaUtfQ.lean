/- Plain: what a feeder of bytes holds; the model's own decoding and encoding. No program in sight. -/
import Derived.Test.YtmdgopclcdmenaaUtfP
import Derived.Test.YtmdgopclcdmenaaNum
namespace Go.Proofs.Ytmdgopclcdmenaa

/-- What a feeder holds: how many bytes it took, those of a character that isn't whole, whether something was wrong. -/
structure Fd where
  place : Nat
  held : List UInt8
  bad : Bool
def tk (h : List UInt8) (c : UInt8) : Option (List UInt8) := match h with
  | [] => if wd c.toNat = 0 then none else if wd c.toNat = 1 then some [] else some [c]
  | a :: l => if okb a.toNat (l.length + 1) c.toNat = true then (if l.length + 2 = wd a.toNat then some [] else some (a :: l ++ [c])) else none
def fstep (f : Fd) (c : UInt8) : Fd := if f.bad = true then f else match tk f.held c with | some h => ⟨f.place + 1, h, false⟩ | none => ⟨f.place, [], true⟩
def frun (f : Fd) (bs : List UInt8) : Fd := bs.foldl fstep f
def fini : Fd := ⟨0, [], false⟩
theorem frun_nil (f : Fd) : frun f [] = f := rfl
theorem frun_snoc (f : Fd) (bs : List UInt8) (c : UInt8) : frun f (bs ++ [c]) = fstep (frun f bs) c := by simp [frun]
theorem frun_append (f : Fd) (a b : List UInt8) : frun f (a ++ b) = frun (frun f a) b := by simp [frun]

def Finv (s : List UInt8) (f : Fd) : Prop :=
  (f.bad = true ∧ f.held = [] ∧ f.place < s.length ∧ ∀ t, wrong (s ++ t) = (30, f.place)) ∨
  (f.bad = false ∧ f.place = s.length ∧ ∃ i, i + f.held.length = s.length ∧ f.held = s.drop i ∧ (∀ t, wrongF (s ++ t) 0 = wrongF (s ++ t) i) ∧ (∀ t, heldF (s ++ t) 0 = heldF (s ++ t) i) ∧
    (f.held ≠ [] → f.held.length < wd (bt s i) ∧ ∀ j, 1 ≤ j → j < f.held.length → okb (bt s i) j (bt s (i + j)) = true))

theorem bt_snoc_last (s : List UInt8) (c : UInt8) (t : List UInt8) : bt (s ++ [c] ++ t) s.length = c.toNat := by
  simp [bt, List.getD]

theorem finv (s : List UInt8) : Finv s (frun fini s) := by
  revert s
  refine snoc_ind ?_ ?_
  · exact .inr ⟨rfl, rfl, 0, rfl, rfl, fun _ => rfl, fun _ => rfl, fun h => absurd rfl h⟩
  · intro s c ih
    rw [frun_snoc]
    generalize frun fini s = f at *
    rcases ih with ⟨hb, hh, hp, hw⟩ | ⟨hb, hp, i, hi, hd, hw, hv, hk⟩
    · rw [show fstep f c = f by unfold fstep; rw [if_pos hb]]
      exact .inl ⟨hb, hh, by simp; omega, fun t => by rw [List.append_assoc]; exact hw _⟩
    · have hfs : fstep f c = match tk f.held c with | some h => ⟨f.place + 1, h, false⟩ | none => ⟨f.place, [], true⟩ := by unfold fstep; rw [if_neg (by rw [hb]; decide)]
      rw [hfs]
      have hw' : ∀ t, wrongF (s ++ [c] ++ t) 0 = wrongF (s ++ [c] ++ t) i := fun t => by rw [List.append_assoc]; exact hw _
      have hv' : ∀ t, heldF (s ++ [c] ++ t) 0 = heldF (s ++ [c] ++ t) i := fun t => by rw [List.append_assoc]; exact hv _
      have hlen : ∀ t : List UInt8, s.length < (s ++ [c] ++ t).length := fun t => by simp <;> omega
      cases hh : f.held with
      | nil =>
        rw [hh] at hi hd
        obtain rfl : i = s.length := by simpa using hi
        have hbt : ∀ t, bt (s ++ [c] ++ t) s.length = c.toNat := bt_snoc_last s c
        by_cases h0 : wd c.toNat = 0
        · have : tk [] c = none := by simp [tk, h0]
          rw [this]
          refine .inl ⟨rfl, rfl, by simp [hp], fun t => ?_⟩
          have hc : chAt (s ++ [c] ++ t) s.length = ⟨0, 0, 30, s.length⟩ := chAt_none (by rw [hbt]; exact h0)
          unfold wrong
          rw [hw', wrongF_bad (hlen t) (by rw [hc]; simp), hc, hp]
        · by_cases h1 : wd c.toNat = 1
          · have : tk [] c = some [] := by simp [tk, h1]
            rw [this]
            have hc : ∀ t, chAt (s ++ [c] ++ t) s.length = ⟨code (s ++ [c] ++ t) s.length 1, 1, 0, 0⟩ := fun t => chAt_ok (by rw [hbt]; exact h1) (by omega) (firstBad_end (Nat.le_refl _))
            refine .inr ⟨rfl, by simp [hp], s.length + 1, by simp, by simp, fun t => ?_, fun t => ?_, fun h => absurd rfl h⟩
            · rw [hw', wrongF_on (hlen t) (by rw [hc]), hc]
            · rw [hv', heldF_on (hlen t) (by rw [hc]), hc]
          · have : tk [] c = some [c] := by simp [tk, h0, h1]
            rw [this]
            refine .inr ⟨rfl, by simp [hp], s.length, by simp, by simp, hw', hv', fun _ => ⟨?_, fun j hj hj2 => by simp at hj2; omega⟩⟩
            have := hbt []
            rw [List.append_nil] at this
            rw [this]
            simp
            omega
      | cons a l =>
        have hd' := hd
        rw [hh] at hi hd hk
        have hi2 : i + (l.length + 1) = s.length := by simpa using hi
        have hil : i < s.length := by omega
        obtain ⟨hk1, hk2⟩ := hk (by simp)
        have ha : bt s i = a.toNat := by
          rw [bt_get s i hil]
          have := congrArg (fun l => l[0]?) hd
          simp [hil] at this
          rw [← this]
        rw [ha] at hk1 hk2
        have hba : ∀ t, bt (s ++ [c] ++ t) i = a.toNat := fun t => by rw [List.append_assoc, bt_append _ _ _ hil, ha]
        have hbj : ∀ t j, j < l.length + 1 → bt (s ++ [c] ++ t) (i + j) = bt s (i + j) := fun t j hj => by rw [List.append_assoc, bt_append _ _ _ (by omega)]
        have hbl : ∀ t, bt (s ++ [c] ++ t) (i + (l.length + 1)) = c.toNat := fun t => by rw [hi2]; exact bt_snoc_last s c t
        have hk1' : l.length + 1 < wd a.toNat := by simpa using hk1
        have hk2' : ∀ t j, 1 ≤ j → j < l.length + 1 → i + j < (s ++ [c] ++ t).length ∧ okb (bt (s ++ [c] ++ t) i) j (bt (s ++ [c] ++ t) (i + j)) = true := fun t j hj hj2 => by
          rw [hba, hbj t j hj2]; exact ⟨by simp; omega, hk2 j hj (by simpa using hj2)⟩
        have hit : ∀ t : List UInt8, i < (s ++ [c] ++ t).length := fun t => by simp <;> omega
        by_cases hok : okb a.toNat (l.length + 1) c.toNat = true
        · have hall : ∀ t j, 1 ≤ j → j < l.length + 2 → i + j < (s ++ [c] ++ t).length ∧ okb (bt (s ++ [c] ++ t) i) j (bt (s ++ [c] ++ t) (i + j)) = true := fun t j hj hj2 => by
            rcases Nat.lt_or_ge j (l.length + 1) with h | h
            · exact hk2' t j hj h
            · obtain rfl : j = l.length + 1 := by omega
              rw [hba, hbl]; exact ⟨by simp; omega, hok⟩
          by_cases hn : l.length + 2 = wd a.toNat
          · have : tk (a :: l) c = some [] := by simp [tk, hok, hn]
            rw [this]
            have hc : ∀ t, chAt (s ++ [c] ++ t) i = ⟨code (s ++ [c] ++ t) i (l.length + 2), l.length + 2, 0, 0⟩ := fun t => chAt_ok (by rw [hba]; exact hn.symm) (by omega) (firstBad_eq (by omega) (Nat.le_refl _) (hall t) (fun h => absurd h (by omega)))
            refine .inr ⟨rfl, by simp [hp], i + (l.length + 2), by simp; omega, ?_, fun t => ?_, fun t => ?_, fun h => absurd rfl h⟩
            · symm; apply List.drop_of_length_le; simp; omega
            · rw [hw', wrongF_on (hit t) (by rw [hc]), hc]
            · rw [hv', heldF_on (hit t) (by rw [hc]), hc]
          · have : tk (a :: l) c = some (a :: l ++ [c]) := by simp [tk, hok, hn]
            rw [this]
            have e1 : bt (s ++ [c]) i = a.toNat := by have := hba []; rwa [List.append_nil] at this
            refine .inr ⟨rfl, by simp [hp], i, by simp; omega, ?_, hw', hv', fun _ => ⟨?_, fun j hj hj2 => ?_⟩⟩
            · rw [List.drop_append_of_le_length (by omega), ← hd]
            · rw [e1]; simp; omega
            · have := (hall [] j hj (by simp at hj2; omega)).2
              rwa [List.append_nil] at this
        · have : tk (a :: l) c = none := by simp [tk, hok]
          rw [this]
          refine .inl ⟨rfl, rfl, by simp [hp], fun t => ?_⟩
          have hc : chAt (s ++ [c] ++ t) i = ⟨0, 0, 30, i + (l.length + 1)⟩ := by
            refine chAt_byte (n := wd a.toNat) (by rw [hba]) (by omega) (firstBad_eq (by omega) (by omega) (hk2' t) (fun _ => ?_)) hk1' (by simp; omega)
            rw [hba, hbl]
            intro h
            exact hok h.2
          unfold wrong
          rw [hw', wrongF_bad (hit t) (by rw [hc]; simp), hc, hp, hi2]

/-- What a feeder holds behind bytes, and what is wrong with them. -/
theorem fd_bad (s : List UInt8) (h : (frun fini s).bad = true) : wrong s = (30, (frun fini s).place) ∧ (frun fini s).held = [] ∧ (frun fini s).place < s.length := by
  rcases finv s with ⟨_, h1, h2, h3⟩ | ⟨hb, _⟩
  · have := h3 []; rw [List.append_nil] at this; exact ⟨this, h1, h2⟩
  · rw [hb] at h; cases h
theorem fd_good (s : List UInt8) (h : (frun fini s).bad = false) : (frun fini s).place = s.length ∧ (frun fini s).held.length = heldF s 0 ∧ wrong s = if (frun fini s).held = [] then (0, 0) else (31, s.length) := by
  rcases finv s with ⟨hb, _⟩ | ⟨_, hp, i, hi, hd, hw, hv, hk⟩
  · rw [hb] at h; cases h
  · have hw := hw []
    have hv := hv []
    rw [List.append_nil] at hw hv
    refine ⟨hp, ?_, ?_⟩
    · rw [hv]
      by_cases h0 : (frun fini s).held = []
      · rw [h0] at hi ⊢
        rw [heldF_end (by simpa using Nat.le_of_eq hi.symm)]; rfl
      · obtain ⟨h1, h2⟩ := hk h0
        have hpos : 0 < (frun fini s).held.length := List.length_pos_iff.2 h0
        have hc : chAt s i = ⟨0, 0, 31, s.length⟩ := chAt_cut (n := wd (bt s i)) rfl (by omega) (firstBad_eq (by omega) (by omega) (fun j hj hj2 => ⟨by omega, h2 j hj hj2⟩) (fun _ h => by omega)) h1 (by omega)
        rw [heldF_bad (by omega) (by rw [hc]; simp)]
        omega
    · unfold wrong
      rw [hw]
      by_cases h0 : (frun fini s).held = []
      · rw [if_pos h0]
        rw [h0] at hi
        exact wrongF_end (by simpa using Nat.le_of_eq hi.symm)
      · rw [if_neg h0]
        obtain ⟨h1, h2⟩ := hk h0
        have hpos : 0 < (frun fini s).held.length := List.length_pos_iff.2 h0
        have hc : chAt s i = ⟨0, 0, 31, s.length⟩ := chAt_cut (n := wd (bt s i)) rfl (by omega) (firstBad_eq (by omega) (by omega) (fun j hj hj2 => ⟨by omega, h2 j hj hj2⟩) (fun _ h => by omega)) h1 (by omega)
        rw [wrongF_bad (by omega) (by rw [hc]; simp), hc]
theorem fd_held_lt (s : List UInt8) : (frun fini s).held.length < 4 := by
  rcases finv s with ⟨_, h, _⟩ | ⟨_, hp, i, hi, hd, hw, hv, hk⟩
  · rw [h]; decide
  · by_cases h0 : (frun fini s).held = []
    · rw [h0]; decide
    · have := (hk h0).1
      have := wd_le (bt s i)
      omega
end Go.Proofs.Ytmdgopclcdmenaa
