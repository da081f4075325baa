/- The law's row of numbers in memory: the program's and the document's. -/
import Derived.Test.YtgihkmofpncobaaDoorNRN
import Derived.Test.YtgihkmofpncobaaDoorNRQ
import Derived.Test.YtgihkmofpncobaaDoorWideL
import Derived.Maps.AppendAt
namespace Go.Proofs.YtgihkmofpncobaaDoor
open Go.RowKit
set_option linter.unusedSimpArgs false
set_option linter.unusedVariables false

theorem own_keep {w w' : World} {base : Nat} {e : TypeId} {size n : Nat} {v : Value} {xs : List Value} (h : w.ownsRow base e size v n xs) (hk : ∀ k, v.ownBlock = some k → w'.heap[k]? = w.heap[k]?) : w'.ownsRow base e size v n xs := by
  obtain ⟨h1, h2⟩ := h
  refine ⟨h1, ?_⟩
  rcases h2 with h2 | ⟨g, cap, cur, hv, hg, hh, r⟩
  · exact .inl h2
  · exact .inr ⟨g, cap, cur, hv, hg, by rw [hk g (by rw [hv]; rfl)]; exact hh, r⟩
theorem own_below {w w' : World} {base n size : Nat} {e : TypeId} {v : Value} {xs : List Value} (h : w.ownsRow base e size v n xs) (hb : Below w.heap.size w w') : w'.ownsRow base e size v n xs := own_keep h (fun k hk => hb.block k (h.lt k hk).2)
theorem grown_below {W w2 w3 : World} {row : Option Nat} (hg : W.grownBy w2 row) (hb : Below w2.heap.size w2 w3) : W.grownBy w3 row :=
  ⟨hb.os.trans hg.os, hb.tape.trans hg.tape, hb.output.trans hg.output, Nat.le_trans hg.size hb.size, fun k hk hne => (hb.block k (Nat.lt_of_lt_of_le hk hg.size)).trans (hg.block k hk hne)⟩
theorem info_wn : (Tryd.prog.info? 26).map (fun i => (i.zero, i.size, i.bytes)) = some (some (.agg #[.slice none 0 0]), 1, 24) := by kernel_rfl
theorem info_rn : (Tryd.prog.info? 31).map (fun i => (i.zero, i.size, i.bytes)) = some (some (.agg #[.slice none 0 0]), 1, 24) := by kernel_rfl
theorem app_wn {w : World} {base n g0 c0 : Nat} {v s : Value} {ts : List Value} (hown : w.ownsRow base 26 1 v n ts) (h1 : s.oneCell' = true) (hc : Blk w g0 26 #[s]) (hn : (n + 1) * 24 ≤ 140737488355328) (hbase : base ≤ w.heap.size) :
    ∃ g cap w', (Builtin.append_ #[28, 28] 28 #[v, .slice (some ⟨g0, 0, none⟩) 1 c0]).run Tryd.prog w = .ok (.slice (some ⟨g, 0, none⟩) (n + 1) cap) w' ∧ w'.ownsRow base 26 1 (.slice (some ⟨g, 0, none⟩) (n + 1) cap) (n + 1) (ts ++ [s]) ∧ w.grownBy w' v.ownBlock := by
  obtain ⟨i, hi, hz, hsize, hby⟩ := info_parts info_wn
  obtain ⟨v', w', hr, ho, hg, _, _⟩ := run_append_own_at (P := Tryd.prog) (w := w) base 28 28 26 i _ 1 24 Tryd.underlying28 hi hz hsize hby rfl (by omega) v n ts hown ⟨g0, 0, none⟩ 1 c0 [s] rfl (fun j u hj => by
    have ha : (⟨g0, 0, none⟩ : Addr).add j = ⟨g0, j, none⟩ := by unfold Addr.add; split <;> simp_all
    rw [ha, hc.cell]
    simpa using hj) (fun u hu => by simp at hu; rw [hu]; exact h1) (by unfold maxLen; omega) hn hbase
  obtain ⟨g, cap, rfl, _⟩ := ho.form (by omega)
  exact ⟨g, cap, w', hr, ho, hg⟩
theorem app_rn {w : World} {base n g0 c0 : Nat} {v s : Value} {ts : List Value} (hown : w.ownsRow base 31 1 v n ts) (h1 : s.oneCell' = true) (hc : Blk w g0 31 #[s]) (hn : (n + 1) * 24 ≤ 140737488355328) (hbase : base ≤ w.heap.size) :
    ∃ g cap w', (Builtin.append_ #[32, 32] 32 #[v, .slice (some ⟨g0, 0, none⟩) 1 c0]).run Tryd.prog w = .ok (.slice (some ⟨g, 0, none⟩) (n + 1) cap) w' ∧ w'.ownsRow base 31 1 (.slice (some ⟨g, 0, none⟩) (n + 1) cap) (n + 1) (ts ++ [s]) ∧ w.grownBy w' v.ownBlock := by
  obtain ⟨i, hi, hz, hsize, hby⟩ := info_parts info_rn
  obtain ⟨v', w', hr, ho, hg, _, _⟩ := run_append_own_at (P := Tryd.prog) (w := w) base 32 32 31 i _ 1 24 Tryd.underlying32 hi hz hsize hby rfl (by omega) v n ts hown ⟨g0, 0, none⟩ 1 c0 [s] rfl (fun j u hj => by
    have ha : (⟨g0, 0, none⟩ : Addr).add j = ⟨g0, j, none⟩ := by unfold Addr.add; split <;> simp_all
    rw [ha, hc.cell]
    simpa using hj) (fun u hu => by simp at hu; rw [hu]; exact h1) (by unfold maxLen; omega) hn hbase
  obtain ⟨g, cap, rfl, _⟩ := ho.form (by omega)
  exact ⟨g, cap, w', hr, ho, hg⟩

/-- Blocks from hi on, and blocks of words and of numbers, stay. -/
def Keeps (hi : Nat) (w w' : World) : Prop := ∀ g t cs, Blk w g t cs → (hi ≤ g ∨ t = 35 ∨ t = 3) → Blk w' g t cs
theorem Keeps.refl (hi : Nat) (w : World) : Keeps hi w w := fun _ _ _ h _ => h
theorem Keeps.trans {hi : Nat} {w w1 w' : World} (h : Keeps hi w w1) (k : Keeps hi w1 w') : Keeps hi w w' := fun g t cs h1 h2 => k g t cs (h g t cs h1 h2) h2
theorem Keeps.of_below {hi : Nat} {w w' : World} (hb : Below w.heap.size w w') : Keeps hi w w' := fun g t cs h _ => h.below hb h.lt
theorem Keeps.below {hi : Nat} {w w1 w' : World} (h : Keeps hi w w1) (hb : Below w1.heap.size w1 w') : Keeps hi w w' := fun g t cs h1 h2 => (h g t cs h1 h2).below hb (h g t cs h1 h2).lt
theorem Keeps.nat {hi : Nat} {w w' : World} (h : Keeps hi w w') {A : Option Addr} {n c x : Nat} (hl : NatL w A n c x) : NatL w' A n c x := by
  obtain ⟨l, h1, h2, h3, h4⟩ := hl
  refine ⟨l, h1, h2, ?_, h4⟩
  rcases h3 with h3 | ⟨g, o, cs, hA, hB, hc⟩
  · exact .inl h3
  · exact .inr ⟨g, o, cs, hA, h g _ cs hB (.inr (.inl rfl)), hc⟩
theorem Keeps.rat {hi : Nat} {w w' : World} (h : Keeps hi w w') {A : Option Addr} {n c x : Nat} (hl : RatL w A n c x) : RatL w' A n c x := by
  obtain ⟨l, h1, h2, h3, h4⟩ := hl
  refine ⟨l, h1, h2, ?_, h4⟩
  rcases h3 with h3 | ⟨g, o, cs, hA, hB, hc⟩
  · exact .inl h3
  · exact .inr ⟨g, o, cs, hA, h g _ cs hB (.inr (.inr rfl)), hc⟩

/-- The law's row: the program's numbers xp, the document's xd. -/
structure RowS (base hi : Nat) (w : World) (rb gp cp gd cd : Nat) (xp xd : List Nat) (P D : List Value) : Prop where
  row : Blk w rb 34 #[.slice (some ⟨gp, 0, none⟩) xp.length cp, .slice (some ⟨gd, 0, none⟩) xd.length cd]
  op : w.ownsRow base 26 1 (.slice (some ⟨gp, 0, none⟩) xp.length cp) xp.length P
  od : w.ownsRow base 31 1 (.slice (some ⟨gd, 0, none⟩) xd.length cd) xd.length D
  np : ∀ i (h : i < xp.length), ∃ A n c, P[i]? = some (.slice A n c) ∧ NatL w A n c xp[i]
  nd : ∀ i (h : i < xd.length), ∃ A n c, D[i]? = some (.slice A n c) ∧ RatL w A n c xd[i]
  small : ∀ x ∈ xp, blen x ≤ 8192
  brb : base ≤ rb
  hrb : rb < hi
  hgp : gp < hi
  hgd : gd < hi
  le : hi ≤ w.heap.size
section
variable {base hi : Nat} {w w1 w' : World} {rb gp cp gd cd : Nat} {xp xd : List Nat} {P D : List Value}
theorem RowS.below (h : RowS base hi w rb gp cp gd cd xp xd P D) (hb : Below w.heap.size w w') : RowS base hi w' rb gp cp gd cd xp xd P D :=
  ⟨h.row.below hb h.row.lt, own_below h.op hb, own_below h.od hb, fun i hx => by obtain ⟨A, n, c, h1, h2⟩ := h.np i hx; exact ⟨A, n, c, h1, h2.below hb⟩, fun i hx => by obtain ⟨A, n, c, h1, h2⟩ := h.nd i hx; exact ⟨A, n, c, h1, h2.below hb⟩,
    h.small, h.brb, h.hrb, h.hgp, h.hgd, Nat.le_trans h.le hb.size⟩
theorem RowS.up (h : RowS base hi w rb gp cp gd cd xp xd P D) : RowS base w.heap.size w rb gp cp gd cd xp xd P D :=
  ⟨h.row, h.op, h.od, h.np, h.nd, h.small, h.brb, Nat.lt_of_lt_of_le h.hrb h.le, Nat.lt_of_lt_of_le h.hgp h.le, Nat.lt_of_lt_of_le h.hgd h.le, Nat.le_refl _⟩
theorem RowS.bgp (h : RowS base hi w rb gp cp gd cd xp xd P D) : base ≤ gp := (h.op.lt gp rfl).1
theorem RowS.bgd (h : RowS base hi w rb gp cp gd cd xp xd P D) : base ≤ gd := (h.od.lt gd rfl).1
theorem RowS.blkp (h : RowS base hi w rb gp cp gd cd xp xd P D) : ∃ cs, Blk w gp 26 cs := by
  rcases h.op.2 with ⟨hv, _⟩ | ⟨g, cap, cur, hv, _, hB, _⟩
  · cases hv
  · injection hv with hv; injection hv with hv; injection hv with hv; subst hv; exact ⟨cur, hB⟩
theorem RowS.blkd (h : RowS base hi w rb gp cp gd cd xp xd P D) : ∃ cs, Blk w gd 31 cs := by
  rcases h.od.2 with ⟨hv, _⟩ | ⟨g, cap, cur, hv, _, hB, _⟩
  · cases hv
  · injection hv with hv; injection hv with hv; injection hv with hv; subst hv; exact ⟨cur, hB⟩
theorem RowS.ne_pd (h : RowS base hi w rb gp cp gd cd xp xd P D) : gp ≠ gd := by
  obtain ⟨_, h1⟩ := h.blkp
  obtain ⟨_, h2⟩ := h.blkd
  exact h1.apart h2 (by decide)
theorem RowS.ne_rp (h : RowS base hi w rb gp cp gd cd xp xd P D) : rb ≠ gp := by
  obtain ⟨_, h1⟩ := h.blkp
  exact h.row.apart h1 (by decide)
theorem RowS.ne_rd (h : RowS base hi w rb gp cp gd cd xp xd P D) : rb ≠ gd := by
  obtain ⟨_, h1⟩ := h.blkd
  exact h.row.apart h1 (by decide)
theorem RowS.c0 (h : RowS base hi w rb gp cp gd cd xp xd P D) : w.cell? ⟨rb, 0, none⟩ = some (.slice (some ⟨gp, 0, none⟩) xp.length cp) := h.row.cell 0
theorem RowS.c1 (h : RowS base hi w rb gp cp gd cd xp xd P D) : w.cell? ⟨rb, 1, none⟩ = some (.slice (some ⟨gd, 0, none⟩) xd.length cd) := h.row.cell 1
theorem RowS.atP (h : RowS base hi w rb gp cp gd cd xp xd P D) (i : Nat) (hx : i < xp.length) : ∃ A n c, w.cell? ⟨gp, i, none⟩ = some (.slice A n c) ∧ NatL w A n c xp[i] := by
  obtain ⟨A, n, c, h1, h2⟩ := h.np i hx
  have h3 := h.op.cells rfl i _ h1
  have ha : (⟨gp, 0, none⟩ : Addr).add i = ⟨gp, i, none⟩ := by unfold Addr.add; split <;> simp_all
  rw [ha] at h3
  exact ⟨A, n, c, h3, h2⟩
theorem RowS.atD (h : RowS base hi w rb gp cp gd cd xp xd P D) (i : Nat) (hx : i < xd.length) : ∃ A n c, w.cell? ⟨gd, i, none⟩ = some (.slice A n c) ∧ RatL w A n c xd[i] := by
  obtain ⟨A, n, c, h1, h2⟩ := h.nd i hx
  have h3 := h.od.cells rfl i _ h1
  have ha : (⟨gd, 0, none⟩ : Addr).add i = ⟨gd, i, none⟩ := by unfold Addr.add; split <;> simp_all
  rw [ha] at h3
  exact ⟨A, n, c, h3, h2⟩
/-- What an append at a row leaves, and the store behind it. -/
theorem keeps_push {row : Nat} (hr : row < hi) {t : TypeId} {cs : Array Value} (hB : Blk w row t cs) (ht : t ≠ 35) (ht2 : t ≠ 3) (hg : w.grownBy w1 (some row)) (hrb : rb < hi) (hR : Blk w rb 34 D.toArray) (i : Nat) (u : Value) : Keeps hi w (w1.setCell ⟨rb, i, none⟩ u) := by
  intro g t' cs' h1 h2
  have n1 : g ≠ row := by
    rintro rfl
    rcases h2 with h2 | h2 | h2
    · omega
    · exact h1.apart hB (by rw [h2]; exact Ne.symm ht) rfl
    · exact h1.apart hB (by rw [h2]; exact Ne.symm ht2) rfl
  have n2 : g ≠ rb := by
    rintro rfl
    rcases h2 with h2 | h2 | h2
    · omega
    · exact h1.apart hR (by rw [h2]; decide) rfl
    · exact h1.apart hR (by rw [h2]; decide) rfl
  exact (h1.grown hg (by simpa using n1)).far (p := ⟨rb, i, none⟩) n2 u
theorem nat_grown {A : Option Addr} {n c x : Nat} (h : NatL w A n c x) {row : Nat} {t : TypeId} {cs : Array Value} (hB : Blk w row t cs) (ht : 35 ≠ t) (hg : w.grownBy w1 (some row)) : NatL w1 A n c x := by
  obtain ⟨l, h1, h2, h3, h4⟩ := h
  refine ⟨l, h1, h2, ?_, h4⟩
  rcases h3 with h3 | ⟨g, o, cs', hA, hB', hc⟩
  · exact .inl h3
  · exact .inr ⟨g, o, cs', hA, hB'.grown hg (by simpa using hB'.apart hB ht), hc⟩
theorem rat_grown {A : Option Addr} {n c x : Nat} (h : RatL w A n c x) {row : Nat} {t : TypeId} {cs : Array Value} (hB : Blk w row t cs) (ht : 3 ≠ t) (hg : w.grownBy w1 (some row)) : RatL w1 A n c x := by
  obtain ⟨l, h1, h2, h3, h4⟩ := h
  refine ⟨l, h1, h2, ?_, h4⟩
  rcases h3 with h3 | ⟨g, o, cs', hA, hB', hc⟩
  · exact .inl h3
  · exact .inr ⟨g, o, cs', hA, hB'.grown hg (by simpa using hB'.apart hB ht), hc⟩
theorem own_far {b n size : Nat} {e : TypeId} {v : Value} {xs : List Value} (h : w.ownsRow b e size v n xs) {p : Addr} (hp : v.ownBlock ≠ some p.block) (u : Value) : (w.setCell p u).ownsRow b e size v n xs :=
  own_keep h (fun k hk => Below.heap_setCell w p u k (by rintro rfl; exact hp hk))
theorem RowS.pushP {g2 c2 : Nat} {A : Option Addr} {n c x : Nat} (h : RowS base hi w rb gp cp gd cd xp xd P D) (hg : w.grownBy w1 (some gp)) (ho : w1.ownsRow base 26 1 (.slice (some ⟨g2, 0, none⟩) (xp.length + 1) c2) (xp.length + 1) (P ++ [.slice A n c])) (hl : NatL w A n c x) (hx : blen x ≤ 8192) :
    RowS base w1.heap.size (w1.setCell ⟨rb, 0, none⟩ (.slice (some ⟨g2, 0, none⟩) (xp.length + 1) c2)) rb g2 c2 gd cd (xp ++ [x]) xd (P ++ [.slice A n c]) D := by
  obtain ⟨cs, hBp⟩ := h.blkp
  have hrow := h.row.grown hg (by simpa using h.ne_rp)
  have hod : w1.ownsRow base 31 1 (.slice (some ⟨gd, 0, none⟩) xd.length cd) xd.length D := h.od.kept hg (.inr (by show some gd ≠ some gp; simpa using h.ne_pd.symm))
  have hrg : rb ≠ g2 := by
    have h2 : ∃ cs, Blk w1 g2 26 cs := by
      rcases ho.2 with ⟨hv, _⟩ | ⟨g, cap, cur, hv, _, hB, _⟩
      · cases hv
      · injection hv with hv; injection hv with hv; injection hv with hv; subst hv; exact ⟨cur, hB⟩
    obtain ⟨_, h2⟩ := h2
    exact hrow.apart h2 (by decide)
  have hPl : P.length = xp.length := by have := h.op.1; omega
  have hsz : (w1.setCell ⟨rb, 0, none⟩ (.slice (some ⟨g2, 0, none⟩) (xp.length + 1) c2)).heap.size = w1.heap.size := by simp
  refine ⟨?_, ?_, own_far hod (by show some gd ≠ some rb; simpa using h.ne_rd.symm) _, fun i hi' => ?_, fun i hi' => ?_, ?_, h.brb, Nat.lt_of_lt_of_le (Nat.lt_of_lt_of_le h.hrb h.le) hg.size, (ho.lt g2 rfl).2, Nat.lt_of_lt_of_le (Nat.lt_of_lt_of_le h.hgd h.le) hg.size, by rw [hsz]; exact Nat.le_refl _⟩
  · have := hrow.set1 0 (.slice (some ⟨g2, 0, none⟩) (xp.length + 1) c2)
    simpa [List.length_append] using this
  · have := own_far ho (p := ⟨rb, 0, none⟩) (by show some g2 ≠ some rb; simpa using hrg.symm) (.slice (some ⟨g2, 0, none⟩) (xp.length + 1) c2)
    simpa [List.length_append] using this
  · by_cases hlt : i < xp.length
    · obtain ⟨A', n', c', h1, h2⟩ := h.np i hlt
      refine ⟨A', n', c', by rw [List.getElem?_append_left (by omega)]; exact h1, ?_⟩
      rw [List.getElem_append_left hlt]
      exact (nat_grown h2 hBp (by decide) hg).set hrow (by decide) _
    · have hi2 : i = xp.length := by rw [List.length_append, List.length_singleton] at hi'; omega
      subst hi2
      refine ⟨A, n, c, by rw [List.getElem?_append_right (by omega), hPl, Nat.sub_self]; rfl, ?_⟩
      rw [List.getElem_append_right (by omega)]
      simp only [Nat.sub_self, List.getElem_cons_zero]
      exact (nat_grown hl hBp (by decide) hg).set hrow (by decide) _
  · obtain ⟨A', n', c', h1, h2⟩ := h.nd i hi'
    exact ⟨A', n', c', h1, (rat_grown h2 hBp (by decide) hg).set hrow (by decide) _⟩
  · intro y hy
    rcases List.mem_append.1 hy with h1 | h1
    · exact h.small y h1
    · rw [List.mem_singleton.1 h1]; exact hx
theorem RowS.pushD {g2 c2 : Nat} {A : Option Addr} {n c x : Nat} (h : RowS base hi w rb gp cp gd cd xp xd P D) (hg : w.grownBy w1 (some gd)) (ho : w1.ownsRow base 31 1 (.slice (some ⟨g2, 0, none⟩) (xd.length + 1) c2) (xd.length + 1) (D ++ [.slice A n c])) (hl : RatL w A n c x) :
    RowS base w1.heap.size (w1.setCell ⟨rb, 1, none⟩ (.slice (some ⟨g2, 0, none⟩) (xd.length + 1) c2)) rb gp cp g2 c2 xp (xd ++ [x]) P (D ++ [.slice A n c]) := by
  obtain ⟨cs, hBd⟩ := h.blkd
  have hrow := h.row.grown hg (by simpa using h.ne_rd)
  have hop : w1.ownsRow base 26 1 (.slice (some ⟨gp, 0, none⟩) xp.length cp) xp.length P := h.op.kept hg (.inr (by show some gp ≠ some gd; simpa using h.ne_pd))
  have hrg : rb ≠ g2 := by
    have h2 : ∃ cs, Blk w1 g2 31 cs := by
      rcases ho.2 with ⟨hv, _⟩ | ⟨g, cap, cur, hv, _, hB, _⟩
      · cases hv
      · injection hv with hv; injection hv with hv; injection hv with hv; subst hv; exact ⟨cur, hB⟩
    obtain ⟨_, h2⟩ := h2
    exact hrow.apart h2 (by decide)
  have hDl : D.length = xd.length := by have := h.od.1; omega
  have hsz : (w1.setCell ⟨rb, 1, none⟩ (.slice (some ⟨g2, 0, none⟩) (xd.length + 1) c2)).heap.size = w1.heap.size := by simp
  refine ⟨?_, own_far hop (by show some gp ≠ some rb; simpa using h.ne_rp.symm) _, ?_, fun i hi' => ?_, fun i hi' => ?_, h.small, h.brb, Nat.lt_of_lt_of_le (Nat.lt_of_lt_of_le h.hrb h.le) hg.size, Nat.lt_of_lt_of_le (Nat.lt_of_lt_of_le h.hgp h.le) hg.size, (ho.lt g2 rfl).2, by rw [hsz]; exact Nat.le_refl _⟩
  · have := hrow.set1 1 (.slice (some ⟨g2, 0, none⟩) (xd.length + 1) c2)
    simpa [List.length_append] using this
  · have := own_far ho (p := ⟨rb, 1, none⟩) (by show some g2 ≠ some rb; simpa using hrg.symm) (.slice (some ⟨g2, 0, none⟩) (xd.length + 1) c2)
    simpa [List.length_append] using this
  · obtain ⟨A', n', c', h1, h2⟩ := h.np i hi'
    exact ⟨A', n', c', h1, (nat_grown h2 hBd (by decide) hg).set hrow (by decide) _⟩
  · by_cases hlt : i < xd.length
    · obtain ⟨A', n', c', h1, h2⟩ := h.nd i hlt
      refine ⟨A', n', c', by rw [List.getElem?_append_left (by omega)]; exact h1, ?_⟩
      rw [List.getElem_append_left hlt]
      exact (rat_grown h2 hBd (by decide) hg).set hrow (by decide) _
    · have hi2 : i = xd.length := by rw [List.length_append, List.length_singleton] at hi'; omega
      subst hi2
      refine ⟨A, n, c, by rw [List.getElem?_append_right (by omega), hDl, Nat.sub_self]; rfl, ?_⟩
      rw [List.getElem_append_right (by omega)]
      simp only [Nat.sub_self, List.getElem_cons_zero]
      exact (rat_grown hl hBd (by decide) hg).set hrow (by decide) _
end
/-- The row holds the numbers xs. -/
def Row (base hi : Nat) (w : World) (rb : Nat) (xs : List Nat) : Prop := ∃ gp cp gd cd P D, RowS base hi w rb gp cp gd cd xs xs P D
theorem Row.below {base hi : Nat} {w w' : World} {rb : Nat} {xs : List Nat} (h : Row base hi w rb xs) (hb : Below w.heap.size w w') : Row base hi w' rb xs := by
  obtain ⟨gp, cp, gd, cd, P, D, h⟩ := h
  exact ⟨gp, cp, gd, cd, P, D, h.below hb⟩
end Go.Proofs.YtgihkmofpncobaaDoor
