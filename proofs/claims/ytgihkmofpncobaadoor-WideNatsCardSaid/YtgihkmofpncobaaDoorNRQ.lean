/- The document's natural numbers: quotients. -/
import Derived.Test.YtgihkmofpncobaaDoorNRO
namespace Go.Proofs.YtgihkmofpncobaaDoor
open Go.RowKit
set_option linter.unusedSimpArgs false
set_option linter.unusedVariables false

attribute [local go_sem] SGives_value SGives_skip SGives_enter CGives_value CGives_skip CGives_enter MGives_value MGives_skip MGives_enter
theorem exec_append {P : Program} {ρ : Operand → Value} {o : Oper} {t : TypeId} (s x : Operand) (ho : o.op = .call { callee := .builtin .append, args := #[s, x], argTypes := #[t, t] }) {w w' : World} {v : Value} (hr : (Builtin.append_ #[t, t] o.type #[ρ s, ρ x]).run P w = .ok v w') : (execOp ρ o).run P w = .ok (.value v) w' := by
  unfold execOp
  simp only [ho, resolve, invoke, builtin, Sem.run_bind, Sem.run_pure, Result.andThen_ok, List.map_toArray, List.map_cons, List.map_nil, hr]
theorem mgives_of {P : Program} {K : Value → World → Prop} {r : Result Next} {v : Value} {w' : World} (h : r = .ok (.value v) w') (k : K v w') : MGives P K r := by rw [h]; exact k
/-- What lies below stays where a row of one's own has grown. -/
theorem QSt.grown {w : World} {A A' : Option Addr} {n c m c' : Nat} {M : List Nat} {B : Option Addr} {k d L : Nat} {wr w' : World} {row : Option Nat} (h : QSt w A A' n c m c' M B k d L wr) (hg : wr.grownBy w' row) (hr : ∀ r, row = some r → w.heap.size + 6 ≤ r ∧ (∀ g o, B = some ⟨g, o, none⟩ → g < r)) : QSt w A A' n c m c' M B k d L w' := by
  have far : ∀ g, g < w.heap.size + 6 → some g ≠ row := fun g hg' hh => by have := (hr g hh.symm).1; omega
  refine ⟨h.b0.grown hg (far _ (by omega)), h.b1.grown hg (far _ (by omega)), h.b2.grown hg (far _ (by omega)), h.b3.grown hg (far _ (by omega)), h.bq.grown hg (far _ (by omega)), h.bl.grown hg (far _ (by omega)), ?_, h.fresh, h.below.grown hg (by have := h.lt; omega) (fun r hr' => by have := (hr r hr').1; omega)⟩
  obtain ⟨l, h1, h2, h3, h4⟩ := h.left
  exact ⟨l, h1, h2, h3.grown hg (fun g o hA hh => absurd ((hr g hh.symm).2 g o hA) (Nat.lt_irrefl _)), h4⟩
theorem qst_start (w : World) (A A' : Option Addr) (n c m c' : Nat) : QSt w A A' n c m c' (List.replicate n 0) none 0 0 0 ((((((w.alloc (.cells #[.slice A n c] 31)).alloc (.cells #[.slice A' m c'] 31)).alloc (.cells #[.slice none 0 0] 31)).alloc (.cells #[.slice none 0 0] 31)).alloc (.cells (zs (.int .i64 0) n).toArray 3)).alloc (.cells #[.slice none 0 0] 31)) := by
  have nx : ∀ (W : World) (k : Nat) (t : TypeId) (cs : Array Value), W.heap.size = k → Blk (W.alloc (.cells cs t)) k t cs := fun W k t cs h => by rw [← h]; exact Blk.new W t cs
  refine ⟨((((( nx w _ _ _ rfl).alloc _).alloc _).alloc _).alloc _).alloc _, (((( nx _ _ _ _ (by simp)).alloc _).alloc _).alloc _).alloc _, ((( nx _ _ _ _ (by simp)).alloc _).alloc _).alloc _, (( nx _ _ _ _ (by simp)).alloc _).alloc _, ?_, nx _ _ _ _ (by simp), ⟨[], IsF.nil _, rfl, RT.nil _ _, Nat.le_refl _⟩, (fun g o h => nomatch h), by go_grown⟩
  rw [← zs_int]
  exact (nx _ _ _ _ (by simp)).alloc _
theorem ragainst_v {M : Nat} (hM : M = 1000000) (v u : Value) (x y : Nat) (w : World) (hv : RatW w v x) (hu : RatW w u y) (hx : x < B4 ^ M) (hy : y < B4 ^ M) :
    Calls Tryd.prog 26 #[v, u] w fun e w' => e = .returned (.int .i64 (cmpI x y)) ∧ Below w.heap.size w w' := by
  subst hM
  exact ragainst_nat v u x y w hv hu hx hy
theorem RatL.blt {w : World} {A : Option Addr} {n c x : Nat} (h : RatL w A n c x) : ∀ g o, A = some ⟨g, o, none⟩ → g < w.heap.size := by
  obtain ⟨l, _, _, h3, _⟩ := h
  intro g o hA
  rcases h3 with ⟨h3, _⟩ | ⟨g2, o2, cs, h3, hB, _⟩
  · rw [hA] at h3; cases h3
  · rw [hA] at h3; injection h3 with h3; injection h3 with h3 _; rw [h3]; exact hB.lt
theorem cmpI_ge (x y : Nat) : decide (0 ≤ cmpI x y) = decide (y ≤ x) := by
  unfold cmpI
  rw [decide_eq_decide]
  by_cases h : x = y
  · rw [if_pos h]; omega
  · rw [if_neg h]
    by_cases h2 : x < y
    · rw [if_pos h2]; omega
    · rw [if_neg h2]; omega
theorem cmpI_le {x y : Nat} : decide (cmpI x y ≤ 0) = true ↔ x ≤ y := by
  unfold cmpI
  rw [decide_eq_true_iff]
  by_cases h : x = y
  · rw [if_pos h]; omega
  · rw [if_neg h]
    by_cases h2 : x < y
    · rw [if_pos h2]; omega
    · rw [if_neg h2]; omega
theorem left_trim {A : Option Addr} {c D L k : Nat} {l : List Nat} (hl : IsF B4 L l) (hln : l.length = k) (hD : D < B4) (hc : 1 + k ≤ c) (hk : k ≤ 1000000) (W : World) (h : RT W 3 A ((D :: l).map fv)) :
    Calls Tryd.prog 53 #[.slice A (1 + k) c] W fun e w' => ∃ j, e = .returned (.agg #[.slice A j c]) ∧ RatL w' A j c (D + B4 * L) ∧ Below W.heap.size W w' := by
  have h1 := rtrim_any A c (D :: l) W h (hl.figs.cons hD) (by rw [List.length_cons, hln]; omega) (by rw [List.length_cons, hln]; omega)
  rw [show (D :: l).length = 1 + k by rw [List.length_cons, hln]; omega] at h1
  refine h1.mono ?_
  rintro e w' ⟨j, rfl, hj, hf, hb⟩
  rw [fval_cons, hl.val] at hf
  refine ⟨j, rfl, ⟨_, hf, by rw [List.length_take, List.length_cons]; rw [List.length_cons] at hj; omega, ?_, by rw [List.length_cons, hln] at hj; omega⟩, hb⟩
  have := (h.below hb).take j
  rwa [← List.map_take] at this
set_option maxRecDepth 4000000 in
set_option maxHeartbeats 16000000 in
theorem rquot_core (v u : Value) (x y N Y Z : Nat) (w : World) (hv : RatW w v x) (hu : RatW w u y) (hx : x < B4 ^ N) (hy : y < B4 ^ N) (hy0 : 0 < y) (hN : N ≤ 5000) (hY : Y = 10000) (hZ : Z = 1000000) :
    Calls Tryd.prog 33 #[v, u] w (QuoP x y w) := by
  obtain ⟨A, n, c, rfl, hl⟩ := hv
  obtain ⟨A', m, c', rfl, hk⟩ := hu
  have hn : n ≤ 5000 := Nat.le_trans (hl.len hx) hN
  have hm : m ≤ 5000 := Nat.le_trans (hk.len hy) hN
  have hnI : (n : Int) ≤ 5000 := by omega
  have HXN := Lib.hid hl.lt
  have HL := Lib.hid hl
  have HK := Lib.hid hk
  have HY0 := Lib.hid hy0
  have HYN := Lib.hid hy
  have hpos : 0 < B4 ^ N := Nat.pow_pos (by decide)
  have HLB : Hid (∀ L, L < y * B4 → L < B4 ^ (N + 1)) := Lib.hid (fun L h => Nat.lt_of_lt_of_le h (by rw [Nat.pow_succ]; exact Nat.mul_le_mul_right _ (Nat.le_of_lt hy)))
  have HNZ : Hid (∀ L, L < y * B4 → L < B4 ^ Z) := Lib.hid (fun L h => b4_up (HLB.out L h) (by omega))
  have HYZ : Hid (y < B4 ^ Z) := Lib.hid (b4_up hy (by omega))
  have HYY : Hid (y < B4 ^ Y) := Lib.hid (b4_up hy (by omega))
  have HSY : Hid (∀ s, s ≤ 40000 → s < B4 ^ Y) := Lib.hid (fun s h => Nat.lt_of_lt_of_le (show s < B4 ^ 2 by unfold B4; omega) (Nat.pow_le_pow_right (by decide) (by omega)))
  have HPN : Hid (∀ s, s ≤ 40000 → y * s < B4 ^ (N + 2)) := Lib.hid (fun s h => by
    rw [Nat.pow_add]
    exact Nat.mul_lt_mul'' hy (by unfold B4; omega))
  have HAG := Lib.hid (fun v u p q W (h1 : RatW W v p) (h2 : RatW W u q) (h3 : p < B4 ^ Z) (h4 : q < B4 ^ Z) => ragainst_v hZ v u p q W h1 h2 h3 h4)
  have HPR := Lib.hid (fun v u s W (h1 : RatW W v y) (h2 : RatW W u s) (h3 : s ≤ 40000) => rproduct_v (N := Y) hY v u y s W h1 h2 HYY.out (HSY.out s h3))
  have HLS := Lib.hid (fun v u p s W (h1 : RatW W v p) (h2 : RatW W u (y * s)) (h3 : p < y * B4) (h4 : y * s ≤ p) => rless_fresh v u p (y * s) (N + 1) W h1 h2 (HLB.out p h3) (HLB.out _ (Nat.lt_of_le_of_lt h4 h3)) (by omega) h4)
  have HPZ : Hid (∀ s, s ≤ 40000 → y * s < B4 ^ Z) := Lib.hid (fun s h => b4_up (HPN.out s h) (by omega))
  have HOF := Lib.hid (fun (s : Nat) (h : s ≤ 40000) W => (show Calls Tryd.prog 15 #[.int .u64 (s : Int)] W (RatV s W) from rof_nat s W (by unfold W64; omega)))
  have hmk := fun W => run_mk ei_int .i64 .i64 n n (Nat.le_refl _) (by omega) (by omega) W
  have HM5 := Lib.hid hm
  clear hl hk hx hy hy0 hpos hm hZ hY
  go_enter Tryd.func33, Tryd.ntmps33
  go_wp2_with fail
  obtain ⟨W6, hW6⟩ : ∃ W6, (((((w.alloc (.cells #[.slice A n c] 31)).alloc (.cells #[.slice A' m c'] 31)).alloc (.cells #[.slice none 0 0] 31)).alloc (.cells #[.slice none 0 0] 31)).alloc (.cells (zs (.int .i64 0) n).toArray 3)).alloc (.cells #[.slice none 0 0] 31) = W6 := ⟨_, rfl⟩
  have HQ0 := Lib.hid (show QSt w A A' n c m c' (List.replicate n 0) none 0 0 0 W6 by rw [← hW6]; exact qst_start w A A' n c m c')
  rw [hW6]
  clear hW6 hmk
  go_loopw [8] (fun s8 wr => ∃ (j : Nat) (M : List Nat) (B : Option Addr) (k d L : Nat), s8 = .int .i64 ((j : Int) - 1) ∧ j ≤ n ∧ M.length = n ∧ Figs B4 M ∧ (∀ t, t < j → M.getD t 0 = 0) ∧ x / B4 ^ j = y * fval B4 (M.drop j) + L ∧ L < y ∧ QSt w A A' n c m c' M B k d L wr) (fun s8 _ => (intOf s8 + 1).toNat)
  case atStart => exact ⟨n, List.replicate n 0, none, 0, 0, 0, rfl, Nat.le_refl _, by simp, fun d hd => by rw [(List.mem_replicate.1 hd).2]; decide, fun t ht => by simp [List.getD, ht], by rw [Nat.div_eq_of_lt HXN.out, List.drop_of_length_le (by simp)]; simp [fval], HY0.out, HQ0.out⟩
  case round =>
    obtain ⟨j, M, B, k, d, L, rfl, hj, hml, hmf, hmz, hxv, hLy, hq⟩ := hrel
    obtain ⟨wo, rfl⟩ : ∃ wo : World, wo = wr := ⟨_, rfl⟩
    have HML := Lib.hid hml
    have HMF := Lib.hid hmf
    have HMZ := Lib.hid hmz
    have HXV := Lib.hid hxv
    have HLY := Lib.hid hLy
    have HQ := Lib.hid hq
    clear hml hmf hmz hxv hLy hq
    cases j with
    | zero =>
      have e0 : ((0 : Nat) : Int) - 1 = -1 := rfl
      rw [e0]
      obtain ⟨hfm, hLm⟩ := quot_done HXV.out HLY.out
      have HTR : Hid (∀ W, Blk W (w.heap.size + 1 + 1 + 1 + 1) 3 (M.map fv).toArray → Calls Tryd.prog 53 #[.slice (some ⟨w.heap.size + 1 + 1 + 1 + 1, 0, none⟩) n n] W fun e w' => ∃ k, e = .returned (.agg #[.slice (some ⟨w.heap.size + 1 + 1 + 1 + 1, 0, none⟩) k n]) ∧ RatL w' (some ⟨w.heap.size + 1 + 1 + 1 + 1, 0, none⟩) k n (x / y) ∧ Below W.heap.size W w') := Lib.hid (fun W hb => by
        have HRT : RT W 3 (some ⟨w.heap.size + 1 + 1 + 1 + 1, 0, none⟩) (M.map fv) := RT.of_blk hb (fun t ht => by rw [Nat.zero_add, List.getElem?_toArray, List.getElem?_eq_getElem ht])
        have h1 := rtrim_any (some ⟨w.heap.size + 1 + 1 + 1 + 1, 0, none⟩) n M W HRT HMF.out (by rw [HML.out]; exact Nat.le_refl _) (by rw [HML.out]; omega)
        rw [HML.out] at h1
        refine h1.mono ?_
        rintro e w' ⟨k, rfl, hk, hf, hb⟩
        rw [hfm] at hf
        refine ⟨k, rfl, ⟨_, hf, by rw [List.length_take]; omega, ?_, by rw [HML.out] at hk; exact hk⟩, hb⟩
        have := (HRT.below hb).take k
        rwa [← List.map_take] at this)
      have HLL : Hid (RatL wo B k d (x % y)) := Lib.hid (by rw [← hLm]; exact HQ.out.left)
      clear hfm hLm e0
      go_upto_region 13 with fail
      obtain ⟨S3_0, S3_0D⟩ : ∃ S : World → Prop, Go.RowKit.Hid (∀ w' : World, S w' ↔ ((Blk w' (w.heap.size + 1 + 1 + 1 + 1) 3 (M.map fv).toArray) ∧ (Blk w' (w.heap.size + 1 + 1 + 1 + 1 + 1) 31 #[.slice B k d]) ∧ (∃ u, Blk w' (w.heap.size + 1 + 1) 31 #[u]) ∧ (Blk w' (w.heap.size + 1 + 1 + 1) 31 #[.slice none 0 0]) ∧ (RatL w' B k d (x % y)) ∧ (Below w.heap.size w w'))) := ⟨_, Lib.hid (fun _ => Iff.rfl)⟩
      refine wp_region_way (S := S3_0) (by kernel_rfl) (by kernel_rfl) (fun W W' h hb => by obtain ⟨h_m, h_b, h_e, h_f, h_l, h_u⟩ := (S3_0D.out _).1 h; exact (S3_0D.out _).2 ⟨h_m.below hb h_m.lt, h_b.below hb h_b.lt, (by obtain ⟨u, h⟩ := h_e; exact ⟨u, h.below hb h.lt⟩), h_f.below hb h_f.lt, h_l.below hb, keepb h_u hb⟩) ((S3_0D.out _).2 ⟨HQ.out.bq.drew, HQ.out.bl.drew, ⟨_, HQ.out.b2.drew⟩, HQ.out.b3.drew, HLL.out.below (Below.refl _ wo).drew, HQ.out.below.drew⟩) ?_
      first
        | (refine Way.no 0 (by rfl) (by kernel_rfl) (by rfl) ?_; simp only [Act.put, List.setIfInBounds_toArray, List.set_cons_zero, List.set_cons_succ])
        | (refine' Way.yes 0 (by rfl) (by kernel_rfl) (by rfl) (fun wS hS => ?_) ?_
           rotate_left
           · obtain ⟨h_m, h_b, h_e, h_f, h_l, h_u⟩ := (S3_0D.out _).1 hS
             have cl := h_b.cell 0
             simp at cl
             go_simp
             first
               | exact ⟨rfl, Below.refl _ _⟩
           simp only [Act.put, List.setIfInBounds_toArray, List.set_cons_zero, List.set_cons_succ])
      first
        | (refine Way.no 2 (by rfl) (by kernel_rfl) (by rfl) ?_; simp only [Act.put, List.setIfInBounds_toArray, List.set_cons_zero, List.set_cons_succ])
        | (refine' Way.yes 2 (by rfl) (by kernel_rfl) (by rfl) (fun wS hS => ?_) ?_
           rotate_left
           · obtain ⟨h_m, h_b, h_e, h_f, h_l, h_u⟩ := (S3_0D.out _).1 hS
             have cl := h_b.cell 0
             simp at cl
             go_simp
             first
               | exact ⟨rfl, Below.refl _ _⟩
           simp only [Act.put, List.setIfInBounds_toArray, List.set_cons_zero, List.set_cons_succ])
      refine Way.move 1 (by rfl) (by kernel_rfl) (by rfl) (fun wA hS => ?_)
      obtain ⟨h_m, h_b, h_e, h_f, h_l, h_u⟩ := (S3_0D.out _).1 hS
      clear hS
      go_simp
      refine (HTR.out _ h_m).mono ?_
      rintro e wN ⟨j, rfl, hl, hb⟩
      refine ⟨_, rfl, ?_⟩
      obtain ⟨S3_1, S3_1D⟩ : ∃ S : World → Prop, Go.RowKit.Hid (∀ w' : World, S w' ↔ ((Blk w' (w.heap.size + 1 + 1 + 1 + 1) 3 (M.map fv).toArray) ∧ (Blk w' (w.heap.size + 1 + 1 + 1 + 1 + 1) 31 #[.slice B k d]) ∧ (∃ u, Blk w' (w.heap.size + 1 + 1) 31 #[u]) ∧ (Blk w' (w.heap.size + 1 + 1 + 1) 31 #[.slice none 0 0]) ∧ (RatL w' B k d (x % y)) ∧ (Below w.heap.size w w') ∧ (RatL w' (some ⟨w.heap.size + 1 + 1 + 1 + 1, 0, none⟩) j n (x / y)))) := ⟨_, Lib.hid (fun _ => Iff.rfl)⟩
      refine Moved.keep S3_1 (fun W W' h hb => by obtain ⟨h_m, h_b, h_e, h_f, h_l, h_u, h_t⟩ := (S3_1D.out _).1 h; exact (S3_1D.out _).2 ⟨h_m.below hb h_m.lt, h_b.below hb h_b.lt, (by obtain ⟨u, h⟩ := h_e; exact ⟨u, h.below hb h.lt⟩), h_f.below hb h_f.lt, h_l.below hb, keepb h_u hb, h_t.below hb⟩) (fun W h => by obtain ⟨h_m, h_b, h_e, h_f, h_l, h_u, h_t⟩ := (S3_1D.out _).1 h; exact (S3_0D.out _).2 ⟨h_m, h_b, h_e, h_f, h_l, h_u⟩) ((S3_1D.out _).2 ⟨h_m.below hb h_m.lt, h_b.below hb h_b.lt, (by obtain ⟨u, h⟩ := h_e; exact ⟨u, h.below hb h.lt⟩), h_f.below hb h_f.lt, h_l.below hb, keepb h_u hb, hl⟩) ?_
      clear h_m h_b h_e h_f h_l h_u
      clear hl hb
      try simp only [Act.put, List.setIfInBounds_toArray, List.set_cons_zero, List.set_cons_succ]
      refine Way.move 3 (by rfl) (by kernel_rfl) (by rfl) (fun wA hS => ?_)
      obtain ⟨h_m, h_b, h_e, h_f, h_l, h_u, h_t⟩ := (S3_1D.out _).1 hS
      clear hS
      obtain ⟨u, h_e⟩ := h_e
      have f1 := h_e.frozen 0
      have c1 := h_e.cell 0
      simp at c1
      go_simp
      obtain ⟨S3_2, S3_2D⟩ : ∃ S : World → Prop, Go.RowKit.Hid (∀ w' : World, S w' ↔ ((Blk w' (w.heap.size + 1 + 1 + 1 + 1) 3 (M.map fv).toArray) ∧ (Blk w' (w.heap.size + 1 + 1 + 1 + 1 + 1) 31 #[.slice B k d]) ∧ (∃ u, Blk w' (w.heap.size + 1 + 1) 31 #[u]) ∧ (Blk w' (w.heap.size + 1 + 1 + 1) 31 #[.slice none 0 0]) ∧ (RatL w' B k d (x % y)) ∧ (Below w.heap.size w w') ∧ (RatL w' (some ⟨w.heap.size + 1 + 1 + 1 + 1, 0, none⟩) j n (x / y)) ∧ (Blk w' (w.heap.size + 1 + 1) 31 #[.slice (some ⟨w.heap.size + 1 + 1 + 1 + 1, 0, none⟩) j n]))) := ⟨_, Lib.hid (fun _ => Iff.rfl)⟩
      refine Moved.keep S3_2 (fun W W' h hb => by obtain ⟨h_m, h_b, h_e, h_f, h_l, h_u, h_t, h_g⟩ := (S3_2D.out _).1 h; exact (S3_2D.out _).2 ⟨h_m.below hb h_m.lt, h_b.below hb h_b.lt, (by obtain ⟨u, h⟩ := h_e; exact ⟨u, h.below hb h.lt⟩), h_f.below hb h_f.lt, h_l.below hb, keepb h_u hb, h_t.below hb, h_g.below hb h_g.lt⟩) (fun W h => by obtain ⟨h_m, h_b, h_e, h_f, h_l, h_u, h_t, h_g⟩ := (S3_2D.out _).1 h; exact (S3_1D.out _).2 ⟨h_m, h_b, h_e, h_f, h_l, h_u, h_t⟩) ((S3_2D.out _).2 ⟨h_m.far (by first | (dsimp only; omega) | (simp; done) | (simp; omega)) _, h_b.far (by first | (dsimp only; omega) | (simp; done) | (simp; omega)) _, ⟨_, h_e.set1 0 _⟩, h_f.far (by first | (dsimp only; omega) | (simp; done) | (simp; omega)) _, h_l.set h_e (by decide) _, h_u.setCell (by first | (dsimp only; omega) | (simp; done) | (simp; omega)) _, h_t.set h_e (by decide) _, h_e.set1 0 _⟩) ?_
      clear h_m h_b h_e h_f h_l h_u h_t f1 c1
      try simp only [Act.put, List.setIfInBounds_toArray, List.set_cons_zero, List.set_cons_succ]
      refine Way.move 4 (by rfl) (by kernel_rfl) (by rfl) (fun wA hS => ?_)
      obtain ⟨h_m, h_b, h_e, h_f, h_l, h_u, h_t, h_g⟩ := (S3_2D.out _).1 hS
      clear hS
      have f1 := h_f.frozen 0
      have c1 := h_f.cell 0
      simp at c1
      go_simp
      obtain ⟨S3_3, S3_3D⟩ : ∃ S : World → Prop, Go.RowKit.Hid (∀ w' : World, S w' ↔ ((Blk w' (w.heap.size + 1 + 1) 31 #[.slice (some ⟨w.heap.size + 1 + 1 + 1 + 1, 0, none⟩) j n]) ∧ (Blk w' (w.heap.size + 1 + 1 + 1) 31 #[.slice B k d]) ∧ (RatL w' B k d (x % y)) ∧ (Below w.heap.size w w') ∧ (RatL w' (some ⟨w.heap.size + 1 + 1 + 1 + 1, 0, none⟩) j n (x / y)))) := ⟨_, Lib.hid (fun _ => Iff.rfl)⟩
      refine Moved.turn S3_3 (fun W W' h hb => by obtain ⟨h_g, h_f, h_l, h_u, h_t⟩ := (S3_3D.out _).1 h; exact (S3_3D.out _).2 ⟨h_g.below hb h_g.lt, h_f.below hb h_f.lt, h_l.below hb, keepb h_u hb, h_t.below hb⟩) (by kernel_rfl) ((S3_3D.out _).2 ⟨h_g.far (by first | (dsimp only; omega) | (simp; done) | (simp; omega)) _, h_f.set1 0 _, h_l.set h_f (by decide) _, h_u.setCell (by first | (dsimp only; omega) | (simp; done) | (simp; omega)) _, h_t.set h_f (by decide) _⟩) ?_
      clear h_m h_b h_e h_f h_l h_u h_t h_g
      try simp only [Act.put, List.setIfInBounds_toArray, List.set_cons_zero, List.set_cons_succ]
      clear f1 c1
      refine Way.done (by kernel_rfl) (fun wE hS => ?_)
      obtain ⟨h_g, h_f, h_l, h_u, h_t⟩ := (S3_3D.out _).1 hS
      have H_g := Lib.hid h_g
      have H_f := Lib.hid h_f
      have H_l := Lib.hid h_l
      have H_u := Lib.hid h_u
      have H_t := Lib.hid h_t
      clear hS h_g h_f h_l h_u h_t
      have p1 := H_g.out.cell 0
      have p2 := H_f.out.cell 0
      simp at p1 p2
      go_wp2_with fail
      exact bodyPost_ret (v := .tuple #[.agg #[.slice (some ⟨w.heap.size + 1 + 1 + 1 + 1, 0, none⟩) j n], .agg #[.slice B k d]]) (by simp [results, Tryd.results33, go_sem, p1, p2]) rfl ⟨_, _, _, _, _, _, rfl, H_t.out, H_l.out, H_u.out⟩
    | succ i =>
      have e0 : ((i + 1 : Nat) : Int) - 1 = (i : Int) := by omega
      rw [e0]
      have t1 : decide ((0 : Int) ≤ (i : Int)) = true := decide_eq_true (by omega)
      have hin : i < n := by omega
      have hiI : (i : Int) < (n : Int) := by omega
      obtain ⟨D, hD⟩ : ∃ D, x / B4 ^ i % B4 = D := ⟨_, rfl⟩
      have HD4 : Hid (D < B4) := Lib.hid (by rw [← hD]; exact Nat.mod_lt _ (by decide))
      have HST : Hid (D + B4 * L < y * B4) := Lib.hid (by rw [← hD]; exact quot_start HLY.out)
      obtain ⟨gx, ox, rfl, hcx⟩ := (HL.out.below HQ.out.below).fig hin
      have HCX : Hid (∀ W, Below wo.heap.size wo W → W.cell? ⟨gx, ox + i, none⟩ = some (fv D)) := Lib.hid (fun W hW => by
        obtain ⟨g2, o2, h2, h3⟩ := (HL.out.below (keepb HQ.out.below hW)).fig hin
        injection h2 with h2
        injection h2 with h4 h5
        rw [← h4, ← h5, hD] at h3
        exact h3)
      have hkL : k ≤ 5000 := by
        refine Nat.le_trans (HQ.out.left.len (Nat.lt_of_lt_of_le HLY.out (Nat.le_of_lt HYN.out))) hN
      have HKL := Lib.hid hkL
      have HIN := Lib.hid hin
      have HJ := Lib.hid hj
      have HD := Lib.hid hD
      clear hcx hin hj hkL hD e0
      go_upto_region 6 with fail
      go_cut [] from 22 to 31 (fun wx => ∃ B2 k2 d2, QSt w (some ⟨gx, ox, none⟩) A' n c m c' M B2 k2 d2 (D + B4 * L) wx)
      case first =>
        obtain ⟨S0_0, S0_0D⟩ : ∃ S : World → Prop, Go.RowKit.Hid (∀ w' : World, S w' ↔ ((QSt w (some ⟨gx, ox, none⟩) A' n c m c' M B k d L w') ∧ (Below wo.heap.size wo w'))) := ⟨_, Lib.hid (fun _ => Iff.rfl)⟩
        refine wp_region_way (S := S0_0) (by kernel_rfl) (by kernel_rfl) (fun W W' h hb => by obtain ⟨h_q, h_u⟩ := (S0_0D.out _).1 h; exact (S0_0D.out _).2 ⟨h_q.keep hb, keepb h_u hb⟩) ((S0_0D.out _).2 ⟨HQ.out.keep (Below.refl _ wo).drew, (Below.refl _ wo).drew⟩) ?_
        first
          | (refine Way.no 0 (by rfl) (by kernel_rfl) (by rfl) ?_; simp only [Act.put, List.setIfInBounds_toArray, List.set_cons_zero, List.set_cons_succ])
          | (refine' Way.yes 0 (by rfl) (by kernel_rfl) (by rfl) (fun wS hS => ?_) ?_
             rotate_left
             · obtain ⟨h_q, h_u⟩ := (S0_0D.out _).1 hS
               have c0 := h_q.c0
               have cl := h_q.cl
               have cx := HCX.out _ h_u
               go_simp
               first
                 | exact ⟨rfl, Below.refl _ _⟩
             simp only [Act.put, List.setIfInBounds_toArray, List.set_cons_zero, List.set_cons_succ])
        first
          | (refine Way.no 1 (by rfl) (by kernel_rfl) (by rfl) ?_; simp only [Act.put, List.setIfInBounds_toArray, List.set_cons_zero, List.set_cons_succ])
          | (refine' Way.yes 1 (by rfl) (by kernel_rfl) (by rfl) (fun wS hS => ?_) ?_
             rotate_left
             · obtain ⟨h_q, h_u⟩ := (S0_0D.out _).1 hS
               have c0 := h_q.c0
               have cl := h_q.cl
               have cx := HCX.out _ h_u
               go_simp
               first
                 | exact ⟨rfl, Below.refl _ _⟩
             simp only [Act.put, List.setIfInBounds_toArray, List.set_cons_zero, List.set_cons_succ])
        first
          | (refine Way.no 2 (by rfl) (by kernel_rfl) (by rfl) ?_; simp only [Act.put, List.setIfInBounds_toArray, List.set_cons_zero, List.set_cons_succ])
          | (refine' Way.yes 2 (by rfl) (by kernel_rfl) (by rfl) (fun wS hS => ?_) ?_
             rotate_left
             · obtain ⟨h_q, h_u⟩ := (S0_0D.out _).1 hS
               have c0 := h_q.c0
               have cl := h_q.cl
               have cx := HCX.out _ h_u
               go_simp
               first
                 | exact ⟨rfl, Below.refl _ _⟩
             simp only [Act.put, List.setIfInBounds_toArray, List.set_cons_zero, List.set_cons_succ])
        first
          | (refine Way.no 3 (by rfl) (by kernel_rfl) (by rfl) ?_; simp only [Act.put, List.setIfInBounds_toArray, List.set_cons_zero, List.set_cons_succ])
          | (refine' Way.yes 3 (by rfl) (by kernel_rfl) (by rfl) (fun wS hS => ?_) ?_
             rotate_left
             · obtain ⟨h_q, h_u⟩ := (S0_0D.out _).1 hS
               have c0 := h_q.c0
               have cl := h_q.cl
               have cx := HCX.out _ h_u
               go_simp
               first
                 | exact ⟨rfl, Below.refl _ _⟩
             simp only [Act.put, List.setIfInBounds_toArray, List.set_cons_zero, List.set_cons_succ])
        first
          | (refine Way.no 4 (by rfl) (by kernel_rfl) (by rfl) ?_; simp only [Act.put, List.setIfInBounds_toArray, List.set_cons_zero, List.set_cons_succ])
          | (refine' Way.yes 4 (by rfl) (by kernel_rfl) (by rfl) (fun wS hS => ?_) ?_
             rotate_left
             · obtain ⟨h_q, h_u⟩ := (S0_0D.out _).1 hS
               have c0 := h_q.c0
               have cl := h_q.cl
               have cx := HCX.out _ h_u
               go_simp
               first
                 | exact ⟨rfl, Below.refl _ _⟩
             simp only [Act.put, List.setIfInBounds_toArray, List.set_cons_zero, List.set_cons_succ])
        first
          | (refine Way.no 6 (by rfl) (by kernel_rfl) (by rfl) ?_; simp only [Act.put, List.setIfInBounds_toArray, List.set_cons_zero, List.set_cons_succ])
          | (refine' Way.yes 6 (by rfl) (by kernel_rfl) (by rfl) (fun wS hS => ?_) ?_
             rotate_left
             · obtain ⟨h_q, h_u⟩ := (S0_0D.out _).1 hS
               have c0 := h_q.c0
               have cl := h_q.cl
               have cx := HCX.out _ h_u
               go_simp
               first
                 | exact ⟨rfl, Below.refl _ _⟩
             simp only [Act.put, List.setIfInBounds_toArray, List.set_cons_zero, List.set_cons_succ])
        first
          | (refine Way.no 7 (by rfl) (by kernel_rfl) (by rfl) ?_; simp only [Act.put, List.setIfInBounds_toArray, List.set_cons_zero, List.set_cons_succ])
          | (refine' Way.yes 7 (by rfl) (by kernel_rfl) (by rfl) (fun wS hS => ?_) ?_
             rotate_left
             · obtain ⟨h_q, h_u⟩ := (S0_0D.out _).1 hS
               have c0 := h_q.c0
               have cl := h_q.cl
               have cx := HCX.out _ h_u
               go_simp
               first
                 | exact ⟨rfl, Below.refl _ _⟩
             simp only [Act.put, List.setIfInBounds_toArray, List.set_cons_zero, List.set_cons_succ])
        refine Way.move 5 (by rfl) (by kernel_rfl) (by rfl) (fun wA hS => ?_)
        obtain ⟨h_q, h_u⟩ := (S0_0D.out _).1 hS
        clear hS
        have hb := below_new wA (.cells #[fv D] 3)
        have hX' := Blk.new wA 3 #[fv D]
        have hg' := h_q.lt
        have hB' := h_q.left.blt
        go_simp
        obtain ⟨g, hgg⟩ : ∃ g, wA.heap.size = g := ⟨_, rfl⟩
        rw [hgg] at hX' hg' hB'
        simp only [hgg]
        obtain ⟨S0_1, S0_1D⟩ : ∃ S : World → Prop, Go.RowKit.Hid (∀ w' : World, S w' ↔ ((QSt w (some ⟨gx, ox, none⟩) A' n c m c' M B k d L w') ∧ (Below wo.heap.size wo w') ∧ (Blk w' g 3 #[fv D]) ∧ (w.heap.size + 6 ≤ g ∧ ∀ gB o, B = some ⟨gB, o, none⟩ → gB < g))) := ⟨_, Lib.hid (fun _ => Iff.rfl)⟩
        refine Moved.keep S0_1 (fun W W' h hb => by obtain ⟨h_q, h_u, h_x, h_g⟩ := (S0_1D.out _).1 h; exact (S0_1D.out _).2 ⟨h_q.keep hb, keepb h_u hb, h_x.below hb h_x.lt, h_g⟩) (fun W h => by obtain ⟨h_q, h_u, h_x, h_g⟩ := (S0_1D.out _).1 h; exact (S0_0D.out _).2 ⟨h_q, h_u⟩) ((S0_1D.out _).2 ⟨h_q.keep hb, keepb h_u hb, hX', ⟨hg', hB'⟩⟩) ?_
        clear h_q h_u
        clear hb hX' hg' hB' hgg
        try simp only [Act.put, List.setIfInBounds_toArray, List.set_cons_zero, List.set_cons_succ]
        refine Way.move 8 (by rfl) (by kernel_rfl) (by rfl) (fun wA hS => ?_)
        obtain ⟨h_q, h_u, h_x, h_g⟩ := (S0_1D.out _).1 hS
        clear hS
        have hown : OwnR wA g 3 okI (.slice (some ⟨g, 0, none⟩) 1 1) 1 [fv D] := OwnR.of_blk (rest := []) rfl (Nat.le_refl _) h_x rfl (by decide) (fun u hu => by cases hu)
        obtain ⟨l, hf, hln, hr, hkd⟩ := h_q.left
        have hrv : RV wA wA.heap.size B k (l.map fv) := by have := hr.rv; rwa [List.length_map, hln] at this
        obtain ⟨A3, cap, wC, hrun, ho3, hg3, hb3⟩ := run_app ei_int okI0 wA 29 g _ 1 [fv D] hown _ B k d _ hrv (fun u hu => by obtain ⟨y, _, rfl⟩ := List.mem_map.1 hu; rfl) (by have := HKL.out; omega) (by have := HKL.out; omega) (by have := h_x.lt; omega)
        refine mgives_of (exec_append (.tmp 27) (.tmp 29) rfl hrun) ?_
        have h_q2 : QSt w (some ⟨gx, ox, none⟩) A' n c m c' M B k d L wC := h_q.grown hg3 (fun r hr' => by injection hr' with hr'; subst hr'; exact h_g)
        obtain ⟨S0_2, S0_2D⟩ : ∃ S : World → Prop, Go.RowKit.Hid (∀ w' : World, S w' ↔ ((QSt w (some ⟨gx, ox, none⟩) A' n c m c' M B k d L w') ∧ (RT w' 3 A3 ((D :: l).map fv)) ∧ (1 + k ≤ cap ∧ Fresh (w.heap.size + 6) A3))) := ⟨_, Lib.hid (fun _ => Iff.rfl)⟩
        refine Moved.turn S0_2 (fun W W' h hb => by obtain ⟨h_q, h_n, h_c⟩ := (S0_2D.out _).1 h; exact (S0_2D.out _).2 ⟨h_q.keep hb, h_n.below hb, h_c⟩) (by kernel_rfl) ((S0_2D.out _).2 ⟨h_q2, RT.of_own ho3, ⟨by obtain ⟨_, _, he, hle⟩ := ho3.shape; injection he with _ _ h3; rw [h3]; exact hle, ho3.fresh.mono h_g.1⟩⟩) ?_
        clear h_q h_u h_x h_g
        try simp only [Act.put, List.setIfInBounds_toArray, List.set_cons_zero, List.set_cons_succ]
        have HTM := Lib.hid (fun W => left_trim (A := A3) (c := cap) hf hln HD4.out (by obtain ⟨_, _, he, hle⟩ := ho3.shape; injection he with _ _ h3; rw [h3]; exact hle) (by have := HKL.out; omega) W)
        clear hown hf hln hr hkd hrv hrun ho3 hg3 hb3 h_q2
        refine Way.move 9 (by rfl) (by kernel_rfl) (by rfl) (fun wA hS => ?_)
        obtain ⟨h_q, h_n, h_c⟩ := (S0_2D.out _).1 hS
        clear hS
        go_simp
        refine (HTM.out _ h_n).mono ?_
        rintro e wN ⟨j, rfl, hl, hb⟩
        refine ⟨_, rfl, ?_⟩
        obtain ⟨S0_3, S0_3D⟩ : ∃ S : World → Prop, Go.RowKit.Hid (∀ w' : World, S w' ↔ ((QSt w (some ⟨gx, ox, none⟩) A' n c m c' M B k d L w') ∧ (RT w' 3 A3 ((D :: l).map fv)) ∧ (1 + k ≤ cap ∧ Fresh (w.heap.size + 6) A3) ∧ (RatL w' A3 j cap (D + B4 * L)))) := ⟨_, Lib.hid (fun _ => Iff.rfl)⟩
        refine Moved.keep S0_3 (fun W W' h hb => by obtain ⟨h_q, h_n, h_c, h_l⟩ := (S0_3D.out _).1 h; exact (S0_3D.out _).2 ⟨h_q.keep hb, h_n.below hb, h_c, h_l.below hb⟩) (fun W h => by obtain ⟨h_q, h_n, h_c, h_l⟩ := (S0_3D.out _).1 h; exact (S0_2D.out _).2 ⟨h_q, h_n, h_c⟩) ((S0_3D.out _).2 ⟨h_q.keep hb, h_n.below hb, h_c, hl⟩) ?_
        clear h_q h_n h_c
        clear hl hb
        try simp only [Act.put, List.setIfInBounds_toArray, List.set_cons_zero, List.set_cons_succ]
        refine Way.move 10 (by rfl) (by kernel_rfl) (by rfl) (fun wA hS => ?_)
        obtain ⟨h_q, h_n, h_c, h_l⟩ := (S0_3D.out _).1 hS
        clear hS
        have f1 := h_q.fl
        have cl := h_q.cl
        go_simp
        obtain ⟨S0_4, S0_4D⟩ : ∃ S : World → Prop, Go.RowKit.Hid (∀ w' : World, S w' ↔ ((QSt w (some ⟨gx, ox, none⟩) A' n c m c' M A3 j cap (D + B4 * L) w'))) := ⟨_, Lib.hid (fun _ => Iff.rfl)⟩
        refine Moved.turn S0_4 (fun W W' h hb => by obtain h_q := (S0_4D.out _).1 h; exact (S0_4D.out _).2 (h_q.keep hb)) (by kernel_rfl) ((S0_4D.out _).2 (h_q.setL h_l (h_c.2.mono (by omega)))) ?_
        clear h_q h_n h_c h_l
        try simp only [Act.put, List.setIfInBounds_toArray, List.set_cons_zero, List.set_cons_succ]
        clear f1 cl HTM
        refine Way.done (by kernel_rfl) (fun wE hS => ?_)
        obtain h_q := (S0_4D.out _).1 hS
        have H_q := Lib.hid h_q
        clear hS h_q
        go_wp2_with fail
        go_meet
        exact ⟨_, _, _, H_q.out⟩
      case rest =>
      obtain ⟨B2, k2, d2, hq2⟩ := hcut
      have HQ2 := Lib.hid hq2
      clear hq2 HCX
      obtain ⟨L0, hL0⟩ : ∃ L0, D + B4 * L = L0 := ⟨_, rfl⟩
      rw [hL0] at HST HQ2
      have HL0 := Lib.hid hL0
      clear hL0 HQ
      go_wp2_with fail
      go_loopg [9] L0 (fun Lk s9 wr => ∃ (a : Nat) (B : Option Addr) (k d : Nat), y * a + Lk = L0 ∧ QSt w (some ⟨gx, ox, none⟩) A' n c m c' (M.set i a) B k d Lk wr)
      case atStart => exact ⟨0, B2, k2, d2, by omega, by rw [set_same (HMZ.out i (Nat.lt_succ_self _)) (by rw [HML.out]; exact HIN.out)]; exact HQ2.out⟩
      case round =>
        obtain ⟨a, B3, k3, d3, ha, hq3⟩ := hrel
        obtain ⟨Lk, rfl⟩ : ∃ Lk : Nat, Lk = gk := ⟨_, rfl⟩
        obtain ⟨wi, rfl⟩ : ∃ wi : World, wi = wr := ⟨_, rfl⟩
        have HA := Lib.hid ha
        have HQ3 := Lib.hid hq3
        have HLk : Hid (Lk < y * B4) := Lib.hid (Nat.lt_of_le_of_lt (by rw [← ha]; exact Nat.le_add_left _ _) HST.out)
        have c1 := hq3.c1
        have cl := hq3.cl
        have HAGi := Lib.hid (HAG.out (.agg #[.slice B3 k3 d3]) (.agg #[.slice A' m c']) Lk y wi hq3.left.w (HK.out.below hq3.below).w (HNZ.out _ HLk.out) HYZ.out)
        clear ha hq3
        by_cases hge : y ≤ Lk
        · have tg : decide ((0 : Int) ≤ cmpI Lk y) = true := (cmpI_ge Lk y).trans (decide_eq_true hge)
          have HGE := Lib.hid hge
          clear hge
          go_wp2_with fail
          refine HAGi.out.mono ?_
          rintro e w2 ⟨rfl, hb2⟩
          have HQ4 := Lib.hid (HQ3.out.keep hb2)
          clear hb2 c1 cl
          go_wp2_with fail
          go_loopw [9] (fun s9 wr => ∃ s : Nat, s9 = .int .i64 (s : Int) ∧ 1 ≤ s ∧ y * s ≤ Lk ∧ QSt w (some ⟨gx, ox, none⟩) A' n c m c' (M.set i a) B3 k3 d3 Lk wr) (fun s9 _ => 40000 - (intOf s9).toNat)
          case atStart => exact ⟨1, rfl, Nat.le_refl _, by rw [Nat.mul_one]; exact HGE.out, HQ4.out⟩
          case round =>
            obtain ⟨s, rfl, hs1, hs2, hq5⟩ := hrel
            obtain ⟨wq, rfl⟩ : ∃ wq : World, wq = wr := ⟨_, rfl⟩
            have hs4 : s < B4 := Nat.lt_of_mul_lt_mul_left (Nat.lt_of_le_of_lt hs2 HLk.out)
            have hs4' : s < 10000 := hs4
            have HQ5 := Lib.hid hq5
            have HS1 := Lib.hid hs1
            have HS2 := Lib.hid hs2
            have hsI : (s : Int) < 10000 := by omega
            have tG : decide ((s : Int) < 10000) = true := decide_eq_true hsI
            have tG' : decide (s < 10000) = true := decide_eq_true hs4'
            have e2 : (2 : Int) * (s : Int) = ((2 * s : Nat) : Int) := by omega
            have HS4 := Lib.hid hs4'
            obtain ⟨s2, hs2'⟩ : ∃ s2, 2 * s = s2 := ⟨_, rfl⟩
            have HS22 := Lib.hid hs2'
            rw [hs2'] at e2
            have hs2I : (s2 : Int) < 20000 := by omega
            have hs0I : (0 : Int) ≤ (s2 : Int) := by omega
            have cv2 := conv_iw s2 (by omega)
            have HO2 := Lib.hid (HOF.out s2 (by omega))
            have HP2 := Lib.hid (fun v u W h1 h2 => HPR.out v u s2 W h1 h2 (by omega))
            have HG2 := Lib.hid (fun v u W h1 h2 => HAG.out v u (y * s2) Lk W h1 h2 (HPZ.out s2 (by omega)) (HNZ.out _ HLk.out))
            have hwr2 : IntKind.i64.wrap (s2 : Int) = (s2 : Int) := IntWalk.i64_in _ (by omega)
            obtain ⟨g, hg⟩ : ∃ g, decide (cmpI (y * s2) Lk ≤ 0) = g := ⟨_, rfl⟩
            have HGG := Lib.hid hg
            have cv1 := conv_iw s (by omega)
            have HO1 := Lib.hid (HOF.out s (by omega))
            have HP1 := Lib.hid (fun v u W h1 h2 => HPR.out v u s W h1 h2 (by omega))
            have HL1 := Lib.hid (fun v u W h1 h2 => HLS.out v u Lk s W h1 h2 HLk.out HS2.out)
            clear hs1 hs2 hs4 hs4' hq5 hs2'
            go_upto_region 9 with fail
            go_cut [48] from 36 to 48 (fun s48 wx => s48 = .bool g ∧ QSt w (some ⟨gx, ox, none⟩) A' n c m c' (M.set i a) B3 k3 d3 Lk wx)
            case first =>
              obtain ⟨S1_0, S1_0D⟩ : ∃ S : World → Prop, Go.RowKit.Hid (∀ w' : World, S w' ↔ ((QSt w (some ⟨gx, ox, none⟩) A' n c m c' (M.set i a) B3 k3 d3 Lk w'))) := ⟨_, Lib.hid (fun _ => Iff.rfl)⟩
              refine wp_region_way (S := S1_0) (by kernel_rfl) (by kernel_rfl) (fun W W' h hb => by obtain h_q := (S1_0D.out _).1 h; exact (S1_0D.out _).2 (h_q.keep hb)) ((S1_0D.out _).2 (HQ5.out.keep (Below.refl _ wq).drew)) ?_
              first
                | (refine Way.no 0 (by rfl) (by kernel_rfl) (by rfl) ?_; simp only [Act.put, List.setIfInBounds_toArray, List.set_cons_zero, List.set_cons_succ])
                | (refine' Way.yes 0 (by rfl) (by kernel_rfl) (by rfl) (fun wS hS => ?_) ?_
                   rotate_left
                   · obtain h_q := (S1_0D.out _).1 hS
                     have c1 := h_q.c1
                     have cl := h_q.cl
                     go_simp
                     first
                       | exact ⟨rfl, Below.refl _ _⟩
                   simp only [Act.put, List.setIfInBounds_toArray, List.set_cons_zero, List.set_cons_succ])
              first
                | (refine Way.no 1 (by rfl) (by kernel_rfl) (by rfl) ?_; simp only [Act.put, List.setIfInBounds_toArray, List.set_cons_zero, List.set_cons_succ])
                | (refine' Way.yes 1 (by rfl) (by kernel_rfl) (by rfl) (fun wS hS => ?_) ?_
                   rotate_left
                   · obtain h_q := (S1_0D.out _).1 hS
                     have c1 := h_q.c1
                     have cl := h_q.cl
                     go_simp
                     first
                       | exact ⟨rfl, Below.refl _ _⟩
                   simp only [Act.put, List.setIfInBounds_toArray, List.set_cons_zero, List.set_cons_succ])
              first
                | (refine Way.no 2 (by rfl) (by kernel_rfl) (by rfl) ?_; simp only [Act.put, List.setIfInBounds_toArray, List.set_cons_zero, List.set_cons_succ])
                | (refine' Way.yes 2 (by rfl) (by kernel_rfl) (by rfl) (fun wS hS => ?_) ?_
                   rotate_left
                   · obtain h_q := (S1_0D.out _).1 hS
                     have c1 := h_q.c1
                     have cl := h_q.cl
                     go_simp
                     first
                       | exact ⟨rfl, Below.refl _ _⟩
                   simp only [Act.put, List.setIfInBounds_toArray, List.set_cons_zero, List.set_cons_succ])
              first
                | (refine Way.no 3 (by rfl) (by kernel_rfl) (by rfl) ?_; simp only [Act.put, List.setIfInBounds_toArray, List.set_cons_zero, List.set_cons_succ])
                | (refine' Way.yes 3 (by rfl) (by kernel_rfl) (by rfl) (fun wS hS => ?_) ?_
                   rotate_left
                   · obtain h_q := (S1_0D.out _).1 hS
                     have c1 := h_q.c1
                     have cl := h_q.cl
                     go_simp
                     first
                       | exact ⟨rfl, Below.refl _ _⟩
                   simp only [Act.put, List.setIfInBounds_toArray, List.set_cons_zero, List.set_cons_succ])
              first
                | (refine Way.no 4 (by rfl) (by kernel_rfl) (by rfl) ?_; simp only [Act.put, List.setIfInBounds_toArray, List.set_cons_zero, List.set_cons_succ])
                | (refine' Way.yes 4 (by rfl) (by kernel_rfl) (by rfl) (fun wS hS => ?_) ?_
                   rotate_left
                   · obtain h_q := (S1_0D.out _).1 hS
                     have c1 := h_q.c1
                     have cl := h_q.cl
                     go_simp
                     first
                       | exact ⟨rfl, Below.refl _ _⟩
                   simp only [Act.put, List.setIfInBounds_toArray, List.set_cons_zero, List.set_cons_succ])
              first
                | (refine Way.no 5 (by rfl) (by kernel_rfl) (by rfl) ?_; simp only [Act.put, List.setIfInBounds_toArray, List.set_cons_zero, List.set_cons_succ])
                | (refine' Way.yes 5 (by rfl) (by kernel_rfl) (by rfl) (fun wS hS => ?_) ?_
                   rotate_left
                   · obtain h_q := (S1_0D.out _).1 hS
                     have c1 := h_q.c1
                     have cl := h_q.cl
                     go_simp
                     first
                       | exact ⟨rfl, Below.refl _ _⟩
                   simp only [Act.put, List.setIfInBounds_toArray, List.set_cons_zero, List.set_cons_succ])
              first
                | (refine Way.no 6 (by rfl) (by kernel_rfl) (by rfl) ?_; simp only [Act.put, List.setIfInBounds_toArray, List.set_cons_zero, List.set_cons_succ])
                | (refine' Way.yes 6 (by rfl) (by kernel_rfl) (by rfl) (fun wS hS => ?_) ?_
                   rotate_left
                   · obtain h_q := (S1_0D.out _).1 hS
                     have c1 := h_q.c1
                     have cl := h_q.cl
                     go_simp
                     first
                       | exact ⟨rfl, Below.refl _ _⟩
                   simp only [Act.put, List.setIfInBounds_toArray, List.set_cons_zero, List.set_cons_succ])
              first
                | (refine Way.no 9 (by rfl) (by kernel_rfl) (by rfl) ?_; simp only [Act.put, List.setIfInBounds_toArray, List.set_cons_zero, List.set_cons_succ])
                | (refine' Way.yes 9 (by rfl) (by kernel_rfl) (by rfl) (fun wS hS => ?_) ?_
                   rotate_left
                   · obtain h_q := (S1_0D.out _).1 hS
                     have c1 := h_q.c1
                     have cl := h_q.cl
                     go_simp
                     first
                       | exact ⟨rfl, Below.refl _ _⟩
                   simp only [Act.put, List.setIfInBounds_toArray, List.set_cons_zero, List.set_cons_succ])
              refine Way.move 7 (by rfl) (by kernel_rfl) (by rfl) (fun wA hS => ?_)
              obtain h_q := (S1_0D.out _).1 hS
              clear hS
              go_simp
              refine (HO2.out _).mono ?_
              rintro e wN ⟨A5, k5, d5, rfl, hl, hb⟩
              refine ⟨_, rfl, ?_⟩
              obtain ⟨S1_1, S1_1D⟩ : ∃ S : World → Prop, Go.RowKit.Hid (∀ w' : World, S w' ↔ ((QSt w (some ⟨gx, ox, none⟩) A' n c m c' (M.set i a) B3 k3 d3 Lk w') ∧ (RatL w' A5 k5 d5 (s2)))) := ⟨_, Lib.hid (fun _ => Iff.rfl)⟩
              refine Moved.keep S1_1 (fun W W' h hb => by obtain ⟨h_q, h_o⟩ := (S1_1D.out _).1 h; exact (S1_1D.out _).2 ⟨h_q.keep hb, h_o.below hb⟩) (fun W h => by obtain ⟨h_q, h_o⟩ := (S1_1D.out _).1 h; exact (S1_0D.out _).2 h_q) ((S1_1D.out _).2 ⟨h_q.keep hb, hl⟩) ?_
              clear h_q
              clear hl hb
              try simp only [Act.put, List.setIfInBounds_toArray, List.set_cons_zero, List.set_cons_succ]
              refine Way.move 8 (by rfl) (by kernel_rfl) (by rfl) (fun wA hS => ?_)
              obtain ⟨h_q, h_o⟩ := (S1_1D.out _).1 hS
              clear hS
              go_simp
              refine (HP2.out _ _ _ (HK.out.below h_q.below).w h_o.w).mono ?_
              rintro e wN ⟨A6, k6, d6, rfl, hl, hb⟩
              refine ⟨_, rfl, ?_⟩
              obtain ⟨S1_2, S1_2D⟩ : ∃ S : World → Prop, Go.RowKit.Hid (∀ w' : World, S w' ↔ ((QSt w (some ⟨gx, ox, none⟩) A' n c m c' (M.set i a) B3 k3 d3 Lk w') ∧ (RatL w' A5 k5 d5 (s2)) ∧ (RatL w' A6 k6 d6 (y * s2)))) := ⟨_, Lib.hid (fun _ => Iff.rfl)⟩
              refine Moved.keep S1_2 (fun W W' h hb => by obtain ⟨h_q, h_o, h_p⟩ := (S1_2D.out _).1 h; exact (S1_2D.out _).2 ⟨h_q.keep hb, h_o.below hb, h_p.below hb⟩) (fun W h => by obtain ⟨h_q, h_o, h_p⟩ := (S1_2D.out _).1 h; exact (S1_1D.out _).2 ⟨h_q, h_o⟩) ((S1_2D.out _).2 ⟨h_q.keep hb, h_o.below hb, hl⟩) ?_
              clear h_q h_o
              clear hl hb
              try simp only [Act.put, List.setIfInBounds_toArray, List.set_cons_zero, List.set_cons_succ]
              refine' Way.yes (v := .int .i64 (cmpI (y * s2) Lk)) 10 (by rfl) (by kernel_rfl) (by rfl) (fun wS hS => ?_) ?_
              · obtain ⟨h_q, h_o, h_p⟩ := (S1_2D.out _).1 hS
                go_simp
                exact (HG2.out _ _ _ h_p.w h_q.left.w).mono fun e w2 h => h
              simp only [Act.put, List.setIfInBounds_toArray, List.set_cons_zero, List.set_cons_succ]
              first
                | (refine Way.no 11 (by rfl) (by kernel_rfl) (by rfl) ?_; simp only [Act.put, List.setIfInBounds_toArray, List.set_cons_zero, List.set_cons_succ])
                | (refine' Way.yes 11 (by rfl) (by kernel_rfl) (by rfl) (fun wS hS => ?_) ?_
                   rotate_left
                   · obtain ⟨h_q, h_o, h_p⟩ := (S1_2D.out _).1 hS
                     go_simp
                     first
                       | exact ⟨rfl, Below.refl _ _⟩
                   simp only [Act.put, List.setIfInBounds_toArray, List.set_cons_zero, List.set_cons_succ])
              first
                | (refine Way.no 12 (by rfl) (by kernel_rfl) (by rfl) ?_; simp only [Act.put, List.setIfInBounds_toArray, List.set_cons_zero, List.set_cons_succ])
                | (refine' Way.yes 12 (by rfl) (by kernel_rfl) (by rfl) (fun wS hS => ?_) ?_
                   rotate_left
                   · obtain ⟨h_q, h_o, h_p⟩ := (S1_2D.out _).1 hS
                     go_simp
                     first
                       | exact ⟨rfl, Below.refl _ _⟩
                   simp only [Act.put, List.setIfInBounds_toArray, List.set_cons_zero, List.set_cons_succ])
              refine Way.done (by kernel_rfl) (fun wE hS => ?_)
              obtain ⟨h_q, h_o, h_p⟩ := (S1_2D.out _).1 hS
              have H_q := Lib.hid h_q
              have H_o := Lib.hid h_o
              have H_p := Lib.hid h_p
              clear hS h_q h_o h_p
              go_wp2_with fail
              go_meet
              exact ⟨rfl, H_q.out⟩
            case rest =>
            obtain ⟨rfl, hq6⟩ := hcut
            have HQ6 := Lib.hid hq6
            clear hq6 hg cv2
            cases g with
            | true =>
              go_wp2_with fail
              go_roundw
              case rel => exact ⟨s2, rfl, by have := HS22.out; have := HS1.out; omega, cmpI_le.1 HGG.out, HQ6.out⟩
              case measure => have := HS22.out; have := HS1.out; have := HS4.out; simp [intOf]; omega
            | false =>
              go_upto_region 11 with fail
              go_cut [] from 51 to 57 (fun wx => ∃ B7 k7 d7, QSt w (some ⟨gx, ox, none⟩) A' n c m c' (M.set i a) B7 k7 d7 (Lk - y * s) wx)
              case first =>
                obtain ⟨S2_0, S2_0D⟩ : ∃ S : World → Prop, Go.RowKit.Hid (∀ w' : World, S w' ↔ ((QSt w (some ⟨gx, ox, none⟩) A' n c m c' (M.set i a) B3 k3 d3 Lk w'))) := ⟨_, Lib.hid (fun _ => Iff.rfl)⟩
                refine wp_region_way (S := S2_0) (by kernel_rfl) (by kernel_rfl) (fun W W' h hb => by obtain h_q := (S2_0D.out _).1 h; exact (S2_0D.out _).2 (h_q.keep hb)) ((S2_0D.out _).2 (HQ6.out.keep (Below.refl _ wc).drew)) ?_
                first
                  | (refine Way.no 0 (by rfl) (by kernel_rfl) (by rfl) ?_; simp only [Act.put, List.setIfInBounds_toArray, List.set_cons_zero, List.set_cons_succ])
                  | (refine' Way.yes 0 (by rfl) (by kernel_rfl) (by rfl) (fun wS hS => ?_) ?_
                     rotate_left
                     · obtain h_q := (S2_0D.out _).1 hS
                       have c1 := h_q.c1
                       have cl := h_q.cl
                       go_simp
                       first
                         | exact ⟨rfl, Below.refl _ _⟩
                     simp only [Act.put, List.setIfInBounds_toArray, List.set_cons_zero, List.set_cons_succ])
                first
                  | (refine Way.no 1 (by rfl) (by kernel_rfl) (by rfl) ?_; simp only [Act.put, List.setIfInBounds_toArray, List.set_cons_zero, List.set_cons_succ])
                  | (refine' Way.yes 1 (by rfl) (by kernel_rfl) (by rfl) (fun wS hS => ?_) ?_
                     rotate_left
                     · obtain h_q := (S2_0D.out _).1 hS
                       have c1 := h_q.c1
                       have cl := h_q.cl
                       go_simp
                       first
                         | exact ⟨rfl, Below.refl _ _⟩
                     simp only [Act.put, List.setIfInBounds_toArray, List.set_cons_zero, List.set_cons_succ])
                first
                  | (refine Way.no 2 (by rfl) (by kernel_rfl) (by rfl) ?_; simp only [Act.put, List.setIfInBounds_toArray, List.set_cons_zero, List.set_cons_succ])
                  | (refine' Way.yes 2 (by rfl) (by kernel_rfl) (by rfl) (fun wS hS => ?_) ?_
                     rotate_left
                     · obtain h_q := (S2_0D.out _).1 hS
                       have c1 := h_q.c1
                       have cl := h_q.cl
                       go_simp
                       first
                         | exact ⟨rfl, Below.refl _ _⟩
                     simp only [Act.put, List.setIfInBounds_toArray, List.set_cons_zero, List.set_cons_succ])
                first
                  | (refine Way.no 3 (by rfl) (by kernel_rfl) (by rfl) ?_; simp only [Act.put, List.setIfInBounds_toArray, List.set_cons_zero, List.set_cons_succ])
                  | (refine' Way.yes 3 (by rfl) (by kernel_rfl) (by rfl) (fun wS hS => ?_) ?_
                     rotate_left
                     · obtain h_q := (S2_0D.out _).1 hS
                       have c1 := h_q.c1
                       have cl := h_q.cl
                       go_simp
                       first
                         | exact ⟨rfl, Below.refl _ _⟩
                     simp only [Act.put, List.setIfInBounds_toArray, List.set_cons_zero, List.set_cons_succ])
                refine Way.move 4 (by rfl) (by kernel_rfl) (by rfl) (fun wA hS => ?_)
                obtain h_q := (S2_0D.out _).1 hS
                clear hS
                go_simp
                refine (HO1.out _).mono ?_
                rintro e wN ⟨A5, k5, d5, rfl, hl, hb⟩
                refine ⟨_, rfl, ?_⟩
                obtain ⟨S2_1, S2_1D⟩ : ∃ S : World → Prop, Go.RowKit.Hid (∀ w' : World, S w' ↔ ((QSt w (some ⟨gx, ox, none⟩) A' n c m c' (M.set i a) B3 k3 d3 Lk w') ∧ (RatL w' A5 k5 d5 (s)))) := ⟨_, Lib.hid (fun _ => Iff.rfl)⟩
                refine Moved.keep S2_1 (fun W W' h hb => by obtain ⟨h_q, h_o⟩ := (S2_1D.out _).1 h; exact (S2_1D.out _).2 ⟨h_q.keep hb, h_o.below hb⟩) (fun W h => by obtain ⟨h_q, h_o⟩ := (S2_1D.out _).1 h; exact (S2_0D.out _).2 h_q) ((S2_1D.out _).2 ⟨h_q.keep hb, hl⟩) ?_
                clear h_q
                clear hl hb
                try simp only [Act.put, List.setIfInBounds_toArray, List.set_cons_zero, List.set_cons_succ]
                refine Way.move 5 (by rfl) (by kernel_rfl) (by rfl) (fun wA hS => ?_)
                obtain ⟨h_q, h_o⟩ := (S2_1D.out _).1 hS
                clear hS
                go_simp
                refine (HP1.out _ _ _ (HK.out.below h_q.below).w h_o.w).mono ?_
                rintro e wN ⟨A6, k6, d6, rfl, hl, hb⟩
                refine ⟨_, rfl, ?_⟩
                obtain ⟨S2_2, S2_2D⟩ : ∃ S : World → Prop, Go.RowKit.Hid (∀ w' : World, S w' ↔ ((QSt w (some ⟨gx, ox, none⟩) A' n c m c' (M.set i a) B3 k3 d3 Lk w') ∧ (RatL w' A5 k5 d5 (s)) ∧ (RatL w' A6 k6 d6 (y * s)))) := ⟨_, Lib.hid (fun _ => Iff.rfl)⟩
                refine Moved.keep S2_2 (fun W W' h hb => by obtain ⟨h_q, h_o, h_p⟩ := (S2_2D.out _).1 h; exact (S2_2D.out _).2 ⟨h_q.keep hb, h_o.below hb, h_p.below hb⟩) (fun W h => by obtain ⟨h_q, h_o, h_p⟩ := (S2_2D.out _).1 h; exact (S2_1D.out _).2 ⟨h_q, h_o⟩) ((S2_2D.out _).2 ⟨h_q.keep hb, h_o.below hb, hl⟩) ?_
                clear h_q h_o
                clear hl hb
                try simp only [Act.put, List.setIfInBounds_toArray, List.set_cons_zero, List.set_cons_succ]
                refine Way.move 6 (by rfl) (by kernel_rfl) (by rfl) (fun wA hS => ?_)
                obtain ⟨h_q, h_o, h_p⟩ := (S2_2D.out _).1 hS
                clear hS
                go_simp
                refine (HL1.out _ _ _ h_q.left.w h_p.w).mono ?_
                rintro e wN ⟨A7, k7, d7, rfl, hl, hb, hf⟩
                refine ⟨_, rfl, ?_⟩
                obtain ⟨S2_3, S2_3D⟩ : ∃ S : World → Prop, Go.RowKit.Hid (∀ w' : World, S w' ↔ ((QSt w (some ⟨gx, ox, none⟩) A' n c m c' (M.set i a) B3 k3 d3 Lk w') ∧ (RatL w' A5 k5 d5 (s)) ∧ (RatL w' A6 k6 d6 (y * s)) ∧ (RatL w' A7 k7 d7 (Lk - y * s)) ∧ (Fresh (w.heap.size + 5) A7))) := ⟨_, Lib.hid (fun _ => Iff.rfl)⟩
                refine Moved.keep S2_3 (fun W W' h hb => by obtain ⟨h_q, h_o, h_p, h_l, h_f⟩ := (S2_3D.out _).1 h; exact (S2_3D.out _).2 ⟨h_q.keep hb, h_o.below hb, h_p.below hb, h_l.below hb, h_f⟩) (fun W h => by obtain ⟨h_q, h_o, h_p, h_l, h_f⟩ := (S2_3D.out _).1 h; exact (S2_2D.out _).2 ⟨h_q, h_o, h_p⟩) ((S2_3D.out _).2 ⟨h_q.keep hb, h_o.below hb, h_p.below hb, hl, hf.mono (by have := h_q.lt; omega)⟩) ?_
                clear h_q h_o h_p
                clear hl hb hf
                try simp only [Act.put, List.setIfInBounds_toArray, List.set_cons_zero, List.set_cons_succ]
                refine Way.move 7 (by rfl) (by kernel_rfl) (by rfl) (fun wA hS => ?_)
                obtain ⟨h_q, h_o, h_p, h_l, h_f⟩ := (S2_3D.out _).1 hS
                clear hS
                have f1 := h_q.fl
                have cl := h_q.cl
                go_simp
                obtain ⟨S2_4, S2_4D⟩ : ∃ S : World → Prop, Go.RowKit.Hid (∀ w' : World, S w' ↔ ((QSt w (some ⟨gx, ox, none⟩) A' n c m c' (M.set i a) A7 k7 d7 (Lk - y * s) w'))) := ⟨_, Lib.hid (fun _ => Iff.rfl)⟩
                refine Moved.turn S2_4 (fun W W' h hb => by obtain h_q := (S2_4D.out _).1 h; exact (S2_4D.out _).2 (h_q.keep hb)) (by kernel_rfl) ((S2_4D.out _).2 (h_q.setL h_l h_f)) ?_
                clear h_q h_o h_p h_l h_f
                try simp only [Act.put, List.setIfInBounds_toArray, List.set_cons_zero, List.set_cons_succ]
                clear f1 cl
                refine Way.done (by kernel_rfl) (fun wE hS => ?_)
                obtain h_q := (S2_4D.out _).1 hS
                have H_q := Lib.hid h_q
                clear hS h_q
                go_wp2_with fail
                go_meet
                exact ⟨_, _, _, H_q.out⟩
              case rest =>
              obtain ⟨B7, k7, d7, hq7⟩ := hcut
              have HQ7 := Lib.hid hq7
              have hla : i < (M.set i a).length := by rw [List.length_set, HML.out]; exact HIN.out
              have cq := hq7.cq hla
              have fq := hq7.fq i
              have hga : (M.set i a).getD i 0 = a := by simp [List.getD]; rw [List.length_set] at hla; simp [hla]
              rw [hga] at cq
              have HSQ := Lib.hid (hq7.setQ i (a + s))
              rw [List.set_set] at HSQ
              have ha4 : a < B4 := quot_fig HA.out HST.out
              have haI : (a : Int) < 10000 := by unfold B4 at ha4; omega
              have HAS : Hid (y * (a + s) + (Lk - y * s) = L0) := Lib.hid (by have := HA.out; have := HS2.out; rw [Nat.mul_add]; omega)
              obtain ⟨z, hz⟩ : ∃ z, a + s = z := ⟨_, rfl⟩
              rw [hz] at HSQ HAS
              have ea : (a : Int) + (s : Int) = (z : Int) := by omega
              have hzI : (z : Int) < 20000 := by omega
              have hinI : (i : Int) < (n : Int) := by have := HIN.out; omega
              have HYS : Hid (1 ≤ y * s) := Lib.hid (Nat.mul_pos HY0.out HS1.out)
              clear hq7 hla hga ha4 hz
              go_wp2_with fail
              go_roundg (Lk - y * s)
              case measure => have := HYS.out; have := HS2.out; omega
              case rel => exact ⟨z, B7, k7, d7, HAS.out, HSQ.out⟩
        · have tg : decide ((0 : Int) ≤ cmpI Lk y) = false := (cmpI_ge Lk y).trans (decide_eq_false hge)
          have HLT := Lib.hid (Nat.not_le.1 hge)
          clear hge
          go_wp2_with fail
          refine HAGi.out.mono ?_
          rintro e w2 ⟨rfl, hb2⟩
          have HQ4 := Lib.hid (HQ3.out.keep hb2)
          clear hb2 c1 cl
          go_wp2_with fail
          go_roundw
          case rel =>
            refine ⟨i, M.set i a, B3, k3, d3, Lk, by go_num, by have := HJ.out; omega, by simpa using HML.out, HMF.out.set (quot_fig HA.out HST.out), fun t ht => ?_, quot_next HXV.out (by rw [HA.out, ← HL0.out, HD.out]) (by rw [HML.out]; exact HIN.out), HLT.out, HQ4.out⟩
            have h := HMZ.out t (by omega)
            simp only [List.getD_eq_getElem?_getD] at h ⊢
            rw [List.getElem?_set_ne (by omega)]
            exact h
          case measure => simp [intOf]
end Go.Proofs.YtgihkmofpncobaaDoor
