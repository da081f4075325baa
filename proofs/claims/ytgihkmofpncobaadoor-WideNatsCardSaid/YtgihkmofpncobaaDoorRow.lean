/- Rows of values of one cell each: what a slice reads as, a row of the call's own with its spare cells, append, make. Over any program. -/
import Derived.Test.YtgihkmofpncobaaDoorMem
import Derived.Deep.AppendLies
import Derived.Laws.MakeOwn
namespace Go.Proofs.YtgihkmofpncobaaDoor
open Go.RowKit

/-- A slice value's first n cells are these; they lie below block B. -/
def RV (w : World) (B : Nat) (A : Option Addr) (n : Nat) (xs : List Value) : Prop :=
  xs.length = n ∧ (0 < n → ∃ g o, A = some ⟨g, o, none⟩ ∧ g < B ∧ ∀ j (h : j < xs.length), w.cell? ⟨g, o + j, none⟩ = some xs[j])

theorem RV.nil (w : World) (B : Nat) (A : Option Addr) : RV w B A 0 [] := ⟨rfl, fun h => absurd h (by omega)⟩
theorem RV.keep {w w' : World} {B : Nat} {A : Option Addr} {n : Nat} {xs : List Value} (h : RV w B A n xs) (hk : ∀ g o, A = some ⟨g, o, none⟩ → g < B → ∀ j, w'.cell? ⟨g, j, none⟩ = w.cell? ⟨g, j, none⟩) : RV w' B A n xs :=
  ⟨h.1, fun hn => by
    obtain ⟨g, o, hA, hg, hc⟩ := h.2 hn
    exact ⟨g, o, hA, hg, fun j hj => (hk g o hA hg _).trans (hc j hj)⟩⟩
theorem RV.below {w w' : World} {B : Nat} {A : Option Addr} {n : Nat} {xs : List Value} (h : RV w B A n xs) (hb : Below B w w') : RV w' B A n xs :=
  h.keep fun g _ _ hg j => hb.cell (p := ⟨g, j, none⟩) hg
theorem RV.mono {w : World} {B B' : Nat} {A : Option Addr} {n : Nat} {xs : List Value} (h : RV w B A n xs) (hB : B ≤ B') : RV w B' A n xs :=
  ⟨h.1, fun hn => by
    obtain ⟨g, o, hA, hg, hc⟩ := h.2 hn
    exact ⟨g, o, hA, by omega, hc⟩⟩
theorem RV.lt {w : World} {B : Nat} {A : Option Addr} {n : Nat} {xs : List Value} (h : RV w B A n xs) : ∀ g o, A = some ⟨g, o, none⟩ → 0 < n → g < B := by
  intro g o hA hn
  obtain ⟨g', o', hA', hg, _⟩ := h.2 hn
  rw [hA] at hA'
  injection hA' with h1
  injection h1 with h1
  omega
theorem RV.but {w w' : World} {B b : Nat} {A : Option Addr} {n : Nat} {xs : List Value} (h : RV w B A n xs) (hb : But B b w w') (hne : ∀ g o, A = some ⟨g, o, none⟩ → 0 < n → g ≠ b) : RV w' B A n xs :=
  ⟨h.1, fun hn => by
    obtain ⟨g, o, hA, hg, hc⟩ := h.2 hn
    exact ⟨g, o, hA, hg, fun j hj => (hb.cell (p := ⟨g, o + j, none⟩) hg (hne g o hA hn)).trans (hc j hj)⟩⟩
theorem RB.rv {w : World} {B : Nat} {A : Option Addr} {n : Nat} {bs : List UInt8} (h : RB w B A n bs) : RV w B A n (bs.map bv) :=
  ⟨by simpa using h.1, fun hn => by
    obtain ⟨g, o, hA, hg, hc⟩ := h.2 hn
    exact ⟨g, o, hA, hg, fun j hj => by simpa using hc j (by simpa using hj)⟩⟩
theorem RV.rb {w : World} {B : Nat} {A : Option Addr} {n : Nat} {bs : List UInt8} (h : RV w B A n (bs.map bv)) : RB w B A n bs :=
  ⟨by simpa using h.1, fun hn => by
    obtain ⟨g, o, hA, hg, hc⟩ := h.2 hn
    exact ⟨g, o, hA, hg, fun j hj => by have := hc j (by simpa using hj); rw [List.getElem_map] at this; exact this⟩⟩

/-- What is known of a slice's type t: its elements' type e, one cell each, whose nought is z; so many bytes. -/
structure EI (P : Program) (t e : TypeId) (z : Value) (bytes : Nat) : Prop where
  und : P.underlying t = some (.slice e)
  info : ∃ i, P.info? e = some i ∧ i.zero = some z ∧ i.size = 1 ∧ i.bytes = bytes
  zc : z.cells = #[z]
  z1 : z.oneCell' = true

/-- A row of the call's own: the cells xs, and behind them spare ones of a kind. -/
def OwnR (w : World) (base : Nat) (e : TypeId) (ok : Value → Prop) (v : Value) (n : Nat) (xs : List Value) : Prop :=
  xs.length = n ∧
  ((v = .slice none 0 0 ∧ n = 0) ∨
   ∃ (g : Nat) (cap : Nat) (rest : List Value), v = .slice (some ⟨g, 0, none⟩) n cap ∧ base ≤ g ∧ Blk w g e (xs ++ rest).toArray ∧ n + rest.length = cap ∧ cap ≤ maxLen ∧ ∀ u ∈ rest, ok u)

section
variable {w w' : World} {base : Nat} {e : TypeId} {ok : Value → Prop} {v : Value} {n : Nat} {xs : List Value}
theorem OwnR.nil (w : World) (base : Nat) (e : TypeId) (ok : Value → Prop) : OwnR w base e ok (.slice none 0 0) 0 [] := ⟨rfl, .inl ⟨rfl, rfl⟩⟩
theorem OwnR.own (h : OwnR w base e ok v n xs) : w.ownsRow base e 1 v n xs := by
  obtain ⟨hl, h⟩ := h
  refine ⟨by simpa using hl, ?_⟩
  rcases h with h | ⟨g, cap, rest, hv, hb, hg, hc, hm, _⟩
  · exact .inl h
  · refine .inr ⟨g, cap, _, hv, hb, hg, by omega, hm, by simp; omega, ?_⟩
    simp [hl]
theorem OwnR.kept {row : Option Nat} (h : OwnR w base e ok v n xs) (hg : w.grownBy w' row) (hne : v.ownBlock = none ∨ v.ownBlock ≠ row) : OwnR w' base e ok v n xs := by
  refine ⟨h.1, ?_⟩
  rcases h.2 with h1 | ⟨g, cap, rest, rfl, hb, hB, hc, hm, hr⟩
  · exact .inl h1
  · refine .inr ⟨g, cap, rest, rfl, hb, ?_, hc, hm, hr⟩
    exact hB.grown hg (by rcases hne with h | h <;> simp [Value.ownBlock] at h ⊢; exact h)
theorem OwnR.below (h : OwnR w base e ok v n xs) (hb : Below w.heap.size w w') : OwnR w' base e ok v n xs := by
  refine ⟨h.1, ?_⟩
  rcases h.2 with h1 | ⟨g, cap, rest, rfl, hbg, hB, hc, hm, hr⟩
  · exact .inl h1
  · exact .inr ⟨g, cap, rest, rfl, hbg, hB.below hb hB.lt, hc, hm, hr⟩
theorem OwnR.but {b : Nat} (h : OwnR w base e ok v n xs) (hb : But w.heap.size b w w') (hne : v.ownBlock ≠ some b) : OwnR w' base e ok v n xs :=
  h.kept hb.grownBy (.inr hne)
theorem OwnR.lt (h : OwnR w base e ok v n xs) : ∀ k, v.ownBlock = some k → base ≤ k ∧ k < w.heap.size := h.own.lt
theorem OwnR.apart {g : Nat} {t : TypeId} {cs : Array Value} (h : OwnR w base e ok v n xs) (hg : Blk w g t cs) (hne : e ≠ t) : v.ownBlock ≠ some g := own_apart h.own hg hne
theorem OwnR.shape (h : OwnR w base e ok v n xs) : ∃ A c, v = .slice A n c ∧ n ≤ c := own_shape h.own
theorem OwnR.rv {A : Option Addr} {c : Nat} (h : OwnR w base e ok (.slice A n c) n xs) : RV w w.heap.size A n xs := by
  refine ⟨h.1, fun hn => ?_⟩
  rcases h.2 with ⟨_, h0⟩ | ⟨g, cap, rest, hv, _, hg, hc, _⟩
  · omega
  · injection hv with hA hn' hc'
    subst hA
    refine ⟨g, 0, rfl, hg.lt, fun j hj => ?_⟩
    rw [hg.cell, Nat.zero_add]
    simp only [List.getElem?_toArray]
    rw [List.getElem?_append_left hj, List.getElem?_eq_getElem hj]
theorem OwnR.of_blk {g cap : Nat} {rest : List Value} (hl : xs.length = n) (hb : base ≤ g) (hg : Blk w g e (xs ++ rest).toArray) (hc : n + rest.length = cap) (hm : cap ≤ maxLen) (hr : ∀ u ∈ rest, ok u) :
    OwnR w base e ok (.slice (some ⟨g, 0, none⟩) n cap) n xs := ⟨hl, .inr ⟨g, cap, rest, rfl, hb, hg, hc, hm, hr⟩⟩
theorem OwnR.set1 {g cap : Nat} (h : OwnR w base e ok (.slice (some ⟨g, 0, none⟩) n cap) n xs) (i : Nat) (hi : i < n) (u : Value) :
    OwnR (w.setCell ⟨g, i, none⟩ u) base e ok (.slice (some ⟨g, 0, none⟩) n cap) n (xs.set i u) := by
  refine ⟨by simpa using h.1, ?_⟩
  rcases h.2 with ⟨hv, _⟩ | ⟨g', cap', rest, hv, hb, hB, hc, hm, hr⟩
  · cases hv
  · injection hv with hA _ hc'
    injection hA with hA
    injection hA with hA
    subst hA hc'
    refine .inr ⟨g, cap, rest, rfl, hb, ?_, hc, hm, hr⟩
    have := hB.set1 i u
    have hl := h.1
    have e : (xs ++ rest).toArray.setIfInBounds i u = (xs.set i u ++ rest).toArray := by
      simp only [List.setIfInBounds_toArray]
      congr 1
      rw [List.set_append_left _ _ (by omega)]
    rwa [e] at this
theorem OwnR.frozen {g cap i : Nat} (h : OwnR w base e ok (.slice (some ⟨g, 0, none⟩) n cap) n xs) : w.frozen? ⟨g, i, none⟩ = false := by
  rcases h.2 with ⟨hv, _⟩ | ⟨g', cap', rest, hv, hb, hB, hc, hm, hr⟩
  · cases hv
  · injection hv with hA _ hc'
    injection hA with hA
    injection hA with hA
    subst hA
    exact hB.frozen i
/-- What is kept of a row that is cut at its end. -/
theorem OwnR.cut {g cap k : Nat} (h : OwnR w base e ok (.slice (some ⟨g, 0, none⟩) n cap) n xs) (hk : k ≤ n) (hx : ∀ u ∈ xs, ok u) :
    OwnR w base e ok (.slice (some ⟨g, 0, none⟩) k cap) k (xs.take k) := by
  have hl := h.1
  rcases h.2 with ⟨hv, _⟩ | ⟨g', cap', rest, hv, hb, hB, hc, hm, hr⟩
  · cases hv
  · injection hv with hA _ hc'
    injection hA with hA
    injection hA with hA
    subst hA hc'
    refine ⟨by simp; omega, .inr ⟨g, cap, xs.drop k ++ rest, rfl, hb, ?_, by simp; omega, hm, ?_⟩⟩
    · rw [← List.append_assoc, List.take_append_drop]; exact hB
    · intro u hu
      rcases List.mem_append.1 hu with h1 | h1
      · exact hx u (List.mem_of_mem_drop h1)
      · exact hr u h1
end

theorem Blk.setb {w : World} {g : Nat} {t : TypeId} {bs : List UInt8} (h : Blk w g t (bs.map bv).toArray) (i : Nat) (b : UInt8) : Blk (w.setCell ⟨g, i, none⟩ (bv b)) g t ((bs.set i b).map bv).toArray := by
  have := h.set1 i (bv b)
  rw [List.map_set]
  rwa [List.setIfInBounds_toArray] at this

theorem zeroCells_list (z : Value) (n : Nat) (hz : z.cells = #[z]) : Builtin.zeroCells z.cells n = (List.replicate n z).toArray := by
  rw [hz]
  apply Array.ext
  · simp [Builtin.zeroCells]
  · intro i h1 h2
    simp [Builtin.zeroCells, Nat.mod_one]

section
variable {P : Program} {t e : TypeId} {z : Value} {bytes : Nat} {ok : Value → Prop}

/-- append of a row to a row of the call's own. -/
theorem run_app (E : EI P t e z bytes) (okz : ok z) (w : World) (ty : TypeId) (base : Nat) (v : Value) (n : Nat) (xs : List Value) (hown : OwnR w base e ok v n xs)
    (B : Nat) (A : Option Addr) (m c : Nat) (news : List Value) (hr : RV w B A m news) (h1 : ∀ u ∈ news, u.oneCell' = true) (h63 : n + m ≤ 1000000000000000000) (hbytes : (n + m) * bytes ≤ 140737488355328) (hbase : base ≤ w.heap.size) :
    ∃ A' cap w', (Builtin.append_ #[t, t] ty #[v, .slice A m c]).run P w = .ok (.slice A' (n + m) cap) w' ∧ OwnR w' base e ok (.slice A' (n + m) cap) (n + m) (xs ++ news) ∧ w.grownBy w' v.ownBlock ∧
      ((Value.slice A' (n + m) cap).ownBlock = v.ownBlock ∨ (Value.slice A' (n + m) cap).ownBlock = some w.heap.size) := by
  obtain ⟨i, hi, hz, hsize, hby⟩ := E.info
  have ht := E.und
  have hzs := E.zc
  obtain ⟨hl, h⟩ := hown
  have hml := hr.1
  have e1 : (xs ++ news).length = n + m := by simp [hl, hml]
  have hmx : n + m ≤ maxLen := by unfold maxLen; omega
  by_cases hm : m = 0
  · subst hm
    obtain rfl : news = [] := List.eq_nil_of_length_eq_zero hml
    have hrun : (Builtin.append_ #[t, t] ty #[v, .slice A 0 c]).run P w = .ok v w := by
      rcases h with ⟨rfl, rfl⟩ | ⟨g, cap, rest, rfl, _, _, hc, _⟩
      · cases A <;> simp [Builtin.append_, run_underlying ht, sizeOf, typeInfo, hi, Builtin.lenOf, Builtin.firstCells, loadCells, loadCellsFrom]
      · cases A <;> simp [Builtin.append_, run_underlying ht, sizeOf, typeInfo, hi, Builtin.lenOf, Builtin.firstCells, loadCells, loadCellsFrom, storeCells, show n ≤ cap by omega]
    rcases h with ⟨rfl, rfl⟩ | ⟨g, cap, rest, rfl, h2, h3, h4, h5, h6⟩
    · exact ⟨none, 0, w, hrun, by rw [List.append_nil]; exact ⟨hl, .inl ⟨rfl, rfl⟩⟩, World.grownBy.refl w _, .inl rfl⟩
    · exact ⟨_, cap, w, hrun, by rw [List.append_nil]; exact ⟨hl, .inr ⟨g, cap, rest, rfl, h2, h3, h4, h5, h6⟩⟩, World.grownBy.refl w _, .inl rfl⟩
  · obtain ⟨g0, o0, rfl, _, hcell⟩ := hr.2 (by omega)
    have hnews : ∀ j u, news[j]? = some u → w.cell? ((⟨g0, o0, none⟩ : Addr).add j) = some u := by
      intro j u hj
      have hadd : (⟨g0, o0, none⟩ : Addr).add j = ⟨g0, o0 + j, none⟩ := by unfold Addr.add; split <;> simp_all
      obtain ⟨hjl, rfl⟩ := List.getElem?_eq_some_iff.1 hj
      rw [hadd]
      exact hcell j hjl
    have hl1 : news.length = m * i.size := by rw [hsize, Nat.mul_one]; exact hml
    have fresh : ∀ old, OwnR (w.drew.alloc (.cells (xs.toArray ++ news.toArray ++ Builtin.zeroCells z.cells (grownCap w (n + m) old e - (n + m))) e)) base e ok
          (.slice (some ⟨w.heap.size, 0, none⟩) (n + m) (grownCap w (n + m) old e)) (n + m) (xs ++ news) ∧
        ∀ row, w.grownBy (w.drew.alloc (.cells (xs.toArray ++ news.toArray ++ Builtin.zeroCells z.cells (grownCap w (n + m) old e - (n + m))) e)) row := by
      intro old
      have hge := grownCap_ge w (n + m) old e
      have hcm := grownCap_le_maxLen w (n + m) old e hmx
      refine ⟨⟨e1, .inr ⟨w.heap.size, _, List.replicate (grownCap w (n + m) old e - (n + m)) z, rfl, hbase, ?_, by simp; omega, hcm, ?_⟩⟩, fun row => ⟨rfl, rfl, rfl, by simp, fun k hk _ => Below.heap_alloc w.drew _ k hk⟩⟩
      · rw [zeroCells_list z _ hzs]
        have : xs.toArray ++ news.toArray ++ (List.replicate (grownCap w (n + m) old e - (n + m)) z).toArray = (xs ++ news ++ List.replicate (grownCap w (n + m) old e - (n + m)) z).toArray := by simp
        rw [this]
        exact heap_alloc_new w.drew _
      · intro u hu
        rw [(List.mem_replicate.1 hu).2]
        exact okz
    rcases h with ⟨rfl, rfl⟩ | ⟨g, cap, rest, rfl, hbg, hB, hcr, hcm, hok⟩
    · obtain rfl : xs = [] := List.eq_nil_of_length_eq_zero hl
      have hr := run_append_nil (P := P) w t ty e i z ht hi hz ⟨g0, o0, none⟩ m c news hl1 hnews (by omega) (by omega) (by have hb := hbytes; rw [Nat.zero_add] at hb; rw [hby]; omega)
      obtain ⟨f2, f3⟩ := fresh 0
      simp only [Array.empty_append, Nat.zero_add, List.nil_append] at f2 f3 hr ⊢
      exact ⟨_, _, _, hr, f2, f3 _, .inr rfl⟩
    · by_cases hroom : n + m ≤ cap
      · have hr := run_append_room (P := P) w t ty e i ht hi g n cap _ hB ⟨g0, o0, none⟩ m c news hl1 hnews h1 hroom (by rw [hsize]; simp; omega)
        refine ⟨_, _, _, hr, ⟨e1, .inr ⟨g, cap, rest.drop m, rfl, hbg, ?_, by simp; omega, hcm, fun u hu => hok u (List.mem_of_mem_drop hu)⟩⟩, ⟨rfl, rfl, rfl, by simp, fun k _ hk => setRow_other w g k _ (fun e => hk (by simp [Value.ownBlock, e]))⟩, .inl rfl⟩
        have hs := setRow_heap w g _ (((xs ++ rest).toArray.toList.take (n * i.size) ++ news ++ (xs ++ rest).toArray.toList.drop (n * i.size + news.length)).toArray) _ _ hB
        have e2 : ((xs ++ rest).toArray.toList.take (n * i.size) ++ news ++ (xs ++ rest).toArray.toList.drop (n * i.size + news.length)) = xs ++ news ++ rest.drop m := by
          rw [hsize]
          subst hl hml
          simp only [Nat.mul_one]
          rw [List.take_left' rfl, List.drop_append]
          simp
        rw [e2] at hs ⊢
        exact hs
      · obtain ⟨hx1, hx2⟩ : n ≤ cap ∧ cap < n + m := by omega
        have holds : ∀ j u, xs[j]? = some u → w.cell? ((⟨g, 0, none⟩ : Addr).add j) = some u := by
          intro j u hj
          have hadd : (⟨g, 0, none⟩ : Addr).add j = ⟨g, j, none⟩ := by unfold Addr.add; split <;> simp_all
          rw [hadd, hB.cell]
          obtain ⟨hjl, _⟩ := List.getElem?_eq_some_iff.1 hj
          rw [List.getElem?_toArray, List.getElem?_append_left hjl]
          exact hj
        have hr := run_append_grow (P := P) w t ty e i z ht hi hz ⟨g, 0, none⟩ n cap xs (by rw [hsize]; simpa using hl) holds ⟨g0, o0, none⟩ m c news hl1 hnews hx2 (by omega) (growslice_fits (by omega) (by rw [hby]; exact hbytes))
        obtain ⟨f2, f3⟩ := fresh cap
        exact ⟨_, _, _, hr, f2, f3 _, .inr rfl⟩

/-- append of a row, as a step. -/
theorem wpList_app (E : EI P t e z bytes) (okz : ok z) {ops : Array Oper} {rest : List Oper} {o : Oper} {a : Act} {Q : Exit → Act → World → Prop} {w : World} (hgd : o.guard = none) (s x : Operand)
    (ho : o.op = .call { callee := .builtin .append, args := #[s, x], argTypes := #[t, t] })
    (base : Nat) (v : Value) (n : Nat) (xs : List Value) (hs : a.eval s = v) (hown : OwnR w base e ok v n xs)
    (B : Nat) (A : Option Addr) (m c : Nat) (news : List Value) (hx : a.eval x = .slice A m c) (hr : RV w B A m news) (h1 : ∀ u ∈ news, u.oneCell' = true) (h63 : n + m ≤ 1000000000000000000) (hbytes : (n + m) * bytes ≤ 140737488355328) (hbase : base ≤ w.heap.size)
    (h : ∀ A' cap w', OwnR w' base e ok (.slice A' (n + m) cap) (n + m) (xs ++ news) → w.grownBy w' v.ownBlock → ((Value.slice A' (n + m) cap).ownBlock = v.ownBlock ∨ (Value.slice A' (n + m) cap).ownBlock = some w.heap.size) →
      wpList P ops Q rest (a.put o.dst (.slice A' (n + m) cap)) w') : wpList P ops Q (o :: rest) a w := by
  refine wpList_plain hgd fun K hK => ?_
  obtain ⟨A', cap, w', hr, h1, h2, h3⟩ := run_app E okz w o.type base v n xs hown B A m c news hr h1 h63 hbytes hbase
  unfold Oper.wp execOp
  simp only [ho, resolve, invoke, builtin, Sem.run_bind, Sem.run_pure, Result.andThen_ok, List.map_toArray, List.map_cons, List.map_nil, hs, hx, hr]
  exact hK _ _ (h A' cap w' h1 h2 h3)

/-- append of a row, at a step of a region that draws its order. -/
theorem step_app (E : EI P t e z bytes) (okz : ok z) {ops : Array Oper} {o : Oper} {a : Act} {K : Act → World → Prop} {Q : Exit → Act → World → Prop} {F : Prop} {w : World} (hgd : o.guard = none) (s x : Operand)
    (ho : o.op = .call { callee := .builtin .append, args := #[s, x], argTypes := #[t, t] })
    (base : Nat) (v : Value) (n : Nat) (xs : List Value) (hs : a.eval s = v) (hown : OwnR w base e ok v n xs)
    (B : Nat) (A : Option Addr) (m c : Nat) (news : List Value) (hx : a.eval x = .slice A m c) (hr : RV w B A m news) (h1 : ∀ u ∈ news, u.oneCell' = true) (h63 : n + m ≤ 1000000000000000000) (hbytes : (n + m) * bytes ≤ 140737488355328) (hbase : base ≤ w.heap.size)
    (h : ∀ A' cap w', OwnR w' base e ok (.slice A' (n + m) cap) (n + m) (xs ++ news) → w.grownBy w' v.ownBlock → ((Value.slice A' (n + m) cap).ownBlock = v.ownBlock ∨ (Value.slice A' (n + m) cap).ownBlock = some w.heap.size) →
      K (a.put o.dst (.slice A' (n + m) cap)) w') : if Region.wanted o (yielded ops a.tmps) = true then Oper.wp P o a w K Q else F := by
  have hw : Region.wanted o (yielded ops a.tmps) = true := by simp [Region.wanted, hgd]
  rw [if_pos hw]
  obtain ⟨A', cap, w', hr, h1, h2, h3⟩ := run_app E okz w o.type base v n xs hown B A m c news hr h1 h63 hbytes hbase
  unfold Oper.wp execOp
  simp only [ho, resolve, invoke, builtin, Sem.run_bind, Sem.run_pure, Result.andThen_ok, List.map_toArray, List.map_cons, List.map_nil, hs, hx, hr]
  exact h A' cap w' h1 h2 h3

/-- So many noughts: behind a name, so that the walk does not turn them. -/
def zs (z : Value) (c : Nat) : List Value := List.replicate c z
theorem zs_length (z : Value) (c : Nat) : (zs z c).length = c := by simp [zs]
theorem zs_get (z : Value) (c j : Nat) (h : j < c) : (zs z c)[j]? = some z := by simp [zs, h]

/-- make. -/
theorem run_mk (E : EI P t e z bytes) (k1 k2 : IntKind) (n c : Nat) (hnc : n ≤ c) (hc : c ≤ 1000000000000000000) (hb : bytes * c ≤ 140737488355328) (w : World) :
    (Instr.makeSlice t (.int k1 (n : Int)) (.int k2 (c : Int))).run P w = .ok (.slice (some ⟨w.heap.size, 0, none⟩) n c) (w.alloc (.cells (zs z c).toArray e)) := by
  obtain ⟨i, hi, hz, hsize, hby⟩ := E.info
  have hb : (i.bytes : Int) * (c : Int) ≤ 281474976710656 := by
    have h1 : bytes * c ≤ 281474976710656 := by omega
    have h2 : (bytes : Int) * (c : Int) = ((bytes * c : Nat) : Int) := (Int.natCast_mul _ _).symm
    rw [hby, h2]; omega
  have hr := run_make (P := P) w t e i z E.und hi hz k1 k2 n c (by omega) (by omega) hb (by omega)
  simp only [Int.toNat_natCast] at hr
  have hcell : madeCells z.cells (c * i.size) = (zs z c).toArray := by
    rw [hsize, Nat.mul_one, E.zc]
    have := toList_madeCells_one z c
    exact (Array.toArray_toList (xs := madeCells #[z] c)).symm.trans (by rw [this]; rfl)
  rw [hcell] at hr
  exact hr
theorem made_own (w : World) (base : Nat) (hb : base ≤ w.heap.size) (n c : Nat) (hnc : n ≤ c) (hc : c ≤ 1000000000000000000) (okz : ok z) :
    OwnR (w.alloc (.cells (zs z c).toArray e)) base e ok (.slice (some ⟨w.heap.size, 0, none⟩) n c) n (zs z n) := by
  refine .of_blk (rest := zs z (c - n)) (zs_length z n) hb ?_ (by rw [zs_length]; omega) (by unfold maxLen; omega) (fun u hu => by rw [(List.mem_replicate.1 hu).2]; exact okz)
  have : zs z n ++ zs z (c - n) = zs z c := by unfold zs; rw [List.replicate_append_replicate]; congr 1; omega
  rw [this]
  exact Blk.new w e _
end
end Go.Proofs.YtgihkmofpncobaaDoor
