/- The laws of digits: a row of digits, five less and five more (down, up). -/
import Derived.Test.YtnajondbdeclmaaGreatDoorBm
import Derived.Test.YtnajondbdeclmaaGreatDoorRoundP
namespace Go.Proofs.YtnajondbdeclmaaGreatDoor
open Go.RowKit
set_option linter.unusedSimpArgs false
set_option linter.unusedVariables false

/-- One less: a row of digits whose last ones are noughts. -/
theorem dec_stop {a : List UInt8} {c : UInt8} {j : Nat} (hd : ∀ x ∈ a ++ [c], isD x = true) (hc : 48 < c.toNat) :
    (∀ x ∈ a ++ [UInt8.ofNat (c.toNat - 1)] ++ List.replicate j 57 ++ [53], isD x = true) ∧ dval (a ++ [UInt8.ofNat (c.toNat - 1)] ++ List.replicate j 57 ++ [53]) + 5 = dval (a ++ [c] ++ List.replicate j 48 ++ [48]) := by
  have hcd := of_decide_eq_true (hd c (by simp))
  have hx : (UInt8.ofNat (c.toNat - 1)).toNat = c.toNat - 1 := by rw [UInt8.toNat_ofNat']; exact Nat.mod_eq_of_lt (by omega)
  refine ⟨fun x hx2 => ?_, ?_⟩
  · rcases List.mem_append.1 hx2 with h1 | h1
    · rcases List.mem_append.1 h1 with h2 | h2
      · rcases List.mem_append.1 h2 with h3 | h3
        · exact hd x (List.mem_append_left _ h3)
        · rw [List.mem_singleton.1 h3]
          unfold isD
          rw [hx]
          exact decide_eq_true (by omega)
      · exact isD_nines h2
    · rw [List.mem_singleton.1 h1]; rfl
  · have hn := dval_nines j
    rw [dval_snoc, dval_snoc (a ++ [c] ++ List.replicate j 48), dval_append, dval_append (a ++ [c]), dval_zeros, List.length_replicate, List.length_replicate, dval_snoc, dval_snoc, hx]
    obtain ⟨q, hq⟩ : ∃ q, c.toNat - 48 = q + 1 := ⟨c.toNat - 49, by omega⟩
    have e1 : c.toNat - 1 - 48 = q := by omega
    rw [e1, hq]
    have e2 : (10 * dval a + (q + 1)) * 10 ^ j = (10 * dval a + q) * 10 ^ j + 10 ^ j := by rw [← Nat.add_assoc, Nat.add_mul, Nat.one_mul]
    rw [e2]
    generalize (10 * dval a + q) * 10 ^ j = z
    rw [← hn]
    show 10 * (z + dval (List.replicate j 57)) + 5 + 5 = 10 * (z + (dval (List.replicate j 57) + 1) + 0) + 0
    omega
theorem dval_zeros' (j : Nat) : dval (List.replicate j 48) = 0 := by
  induction j with
  | zero => rfl
  | succ j ih => rw [List.replicate_succ, dval_cons, ih]; simp
/-- What down answers. -/
def DownP (s : List UInt8) (w : World) (e : Ending) (w' : World) : Prop := ∃ t : List UInt8, e = .returned (.string ⟨t.toArray⟩) ∧ (∀ c ∈ t, isD c = true) ∧ dval t + 5 = dval s ∧ t.length = s.length ∧ Below w.heap.size w w'
set_option maxRecDepth 100000 in
set_option maxHeartbeats 4000000 in
theorem down_any (a : List UInt8) (hd : ∀ c ∈ a, isD c = true) (hp : 0 < dval a) (hl : a.length ≤ 100000) (w : World) :
    Calls Tryz.prog 38 #[.string ⟨(a ++ [48]).toArray⟩] w (DownP (a ++ [48]) w) := by
  have HX : Hid (∀ e w', (∃ t : List UInt8, e = .returned (.string ⟨t.toArray⟩) ∧ (∀ c ∈ t, isD c = true) ∧ dval t + 5 = dval (a ++ [48]) ∧ t.length = (a ++ [48]).length ∧ Below w.heap.size w w') → DownP (a ++ [48]) w e w') := Lib.hid (fun e w' h => h)
  refine Calls.mono ?_ (fun e w' h => HX.out e w' h)
  clear HX
  obtain ⟨k, W0, hcv, hbm, hbl⟩ := tobytes_at (a ++ [48]) w
  have HD := Lib.hid hd
  have HP := Lib.hid hp
  obtain ⟨m, hm⟩ : ∃ m, a.length = m := ⟨_, rfl⟩
  have HM := Lib.hid hm
  have hsl : (a ++ [48] : List UInt8).length = m + 1 := by rw [List.length_append, List.length_singleton, hm]
  rw [hsl] at hcv
  have hmI : (m : Int) ≤ 100000 := by omega
  have hm0 : 0 < m := by
    rcases Nat.eq_zero_or_pos m with h | h
    · rw [h] at hm
      rw [List.eq_nil_of_length_eq_zero hm, dval_nil] at hp
      omega
    · exact h
  have fM : W0.frozen? ⟨w.heap.size, m, none⟩ = false := hbm.frozen m (by rw [List.length_append, hsl]; omega)
  have cM : W0.cell? ⟨w.heap.size, m, none⟩ = some (.int .u8 48) := by
    rw [hbm.cell m (by rw [List.length_append, hsl]; omega)]
    subst hm
    simp [bv]
  have hset : (a ++ [48] ++ List.replicate k 0).set m 53 = a ++ [53] ++ List.replicate k 0 := by
    subst hm
    simp
  have hbm1 := hbm.set m 53
  rw [hset] at hbm1
  have h53 : bv 53 = .int .u8 53 := rfl
  rw [h53] at hbm1
  have HB := Lib.hid hbm1
  have HE := Lib.hid (hbl.setCell (p := ⟨w.heap.size, m, none⟩) (Nat.le_refl _) (.int .u8 53))
  have k1 : IntKind.i64.wrap (((m + 1 : Nat) : Int) - 1) = (m : Int) := by rw [IntWalk.i64_in _ (by omega)]; omega
  have k2 : IntKind.i64.wrap (((m + 1 : Nat) : Int) - 2) = (m : Int) - 1 := by rw [IntWalk.i64_in _ (by omega)]; omega
  obtain ⟨M, hMM⟩ : ∃ M, m + 1 = M := ⟨_, rfl⟩
  rw [hMM] at hcv k1 k2
  have hmM : m < M := by omega
  have HMM := Lib.hid hMM
  clear hd hp hl hbm hbl hset hsl hbm1 h53 hm hMM
  go_enter Tryz.func38, Tryz.ntmps38
  go_wp2_with fail
  clear hcv k1
  obtain ⟨W1, hW1⟩ : ∃ W1, W0.setCell ⟨w.heap.size, m, none⟩ (.int .u8 53) = W1 := ⟨_, rfl⟩
  rw [hW1] at HB HE ⊢
  clear hW1 fM cM
  go_loopw [4] (fun s4 wr => ∃ (b : List UInt8) (j : Nat), a = b ++ (List.replicate j 48 : List UInt8) ∧ s4 = Value.int .i64 ((b.length : Int) - 1) ∧ BM wr w.heap.size (b ++ (List.replicate j 57 : List UInt8) ++ ([53] : List UInt8) ++ (List.replicate k 0 : List UInt8)) ∧ Below w.heap.size w wr) (fun s4 _ => (intOf s4 + 1).toNat)
  case atStart => exact ⟨a, 0, by simp, by rw [HM.out], by simpa using HB.out, HE.out⟩
  case round =>
    obtain ⟨b, j, hs, rfl, hbm, hbel⟩ := hrel
    obtain ⟨wi, rfl⟩ : ∃ wi : World, wi = wr := ⟨_, rfl⟩
    have HS := Lib.hid hs
    have HB2 := Lib.hid hbm
    have HE2 := Lib.hid hbel
    clear hs hbm hbel
    have hlen : b.length + j = m := by rw [← HM.out, HS.out]; simp
    rcases List.eq_nil_or_concat b with rfl | ⟨b', c, rfl⟩
    · have h := HP.out
      rw [HS.out, List.nil_append, dval_zeros'] at h
      exact absurd h (Nat.lt_irrefl 0)
    · rw [List.concat_eq_append] at *
      obtain ⟨p, hp⟩ : ∃ p, b'.length = p := ⟨_, rfl⟩
      have e1 : ((b' ++ [c]).length : Int) - 1 = (p : Int) := by rw [List.length_append, List.length_singleton]; omega
      have hpm : p + 1 + j = m := by rw [← hlen, List.length_append, List.length_singleton, hp]
      have hcd := of_decide_eq_true (HD.out c (by rw [HS.out]; simp))
      have hLM : (b' ++ [c] ++ List.replicate j 57 ++ [53] ++ List.replicate k 0).length = M + k := by rw [← HMM.out]; simp; omega
      have hget : (b' ++ [c] ++ List.replicate j 57 ++ [53] ++ List.replicate k 0)[p]'(by omega) = c := by
        subst hp
        simp
      obtain ⟨x, hx⟩ : ∃ x, c.toNat = x := ⟨_, rfl⟩
      have cP : wi.cell? ⟨w.heap.size, p, none⟩ = some (.int .u8 (x : Int)) := by rw [HB2.out.cell p (by omega), hget]; unfold bv; rw [hx]
      have fP : wi.frozen? ⟨w.heap.size, p, none⟩ = false := HB2.out.frozen p (by omega)
      have hxI : (x : Int) ≤ 57 := by omega
      have hx0 : (48 : Int) ≤ (x : Int) := by omega
      have hpI : (p : Int) ≤ 100000 := by omega
      have t0 : decide ((0 : Int) ≤ (p : Int)) = true := decide_eq_true (by omega)
      have hplt : p < M := by have := HMM.out; omega
      have HX := Lib.hid hx
      have HCD := Lib.hid hcd
      have HPP := Lib.hid hp
      have HPM := Lib.hid hpm
      rw [e1]
      by_cases hgt : 48 < x
      · have t1 : decide ((48 : Int) < (x : Int)) = true := decide_eq_true (by omega)
        obtain ⟨y, hy⟩ : ∃ y, x - 1 = y := ⟨_, rfl⟩
        have ky : (x : Int) - 1 = (y : Int) := by omega
        have hst := dec_stop (a := b') (c := c) (j := j) (fun d hdd => HD.out d (by rw [HS.out]; exact List.mem_append_left _ hdd)) (by omega)
        have hset := HB2.out.set p (UInt8.ofNat (c.toNat - 1))
        have hs1 : (b' ++ [c] ++ List.replicate j 57 ++ [53] ++ List.replicate k 0).set p (UInt8.ofNat (c.toNat - 1)) = b' ++ [UInt8.ofNat (c.toNat - 1)] ++ List.replicate j 57 ++ [53] ++ List.replicate k 0 := by
          subst hp
          simp
        rw [hs1] at hset
        have hbv : bv (UInt8.ofNat (c.toNat - 1)) = .int .u8 (y : Int) := by unfold bv; rw [UInt8.toNat_ofNat', Nat.mod_eq_of_lt (by omega), hx, hy]
        rw [hbv] at hset
        have hE1 := HE2.out.setCell (p := ⟨w.heap.size, p, none⟩) (Nat.le_refl _) (.int .u8 (y : Int))
        have hco := hset.str M (M + k) (by simp; have := HMM.out; omega)
        have htk : (b' ++ [UInt8.ofNat (c.toNat - 1)] ++ List.replicate j 57 ++ [53] ++ List.replicate k 0).take M = b' ++ [UInt8.ofNat (c.toNat - 1)] ++ List.replicate j 57 ++ [53] := by
          rw [List.take_append_of_le_length (by simp; have := HMM.out; omega), List.take_of_length_le (by simp; have := HMM.out; omega)]
        rw [htk] at hco
        have hres : dval (b' ++ [UInt8.ofNat (c.toNat - 1)] ++ List.replicate j 57 ++ [53]) + 5 = dval (a ++ [48]) := by rw [hst.2, HS.out]
        have hln : (b' ++ [UInt8.ofNat (c.toNat - 1)] ++ List.replicate j 57 ++ [53]).length = (a ++ [48]).length := by rw [HS.out]; simp
        have hdg := hst.1
        generalize b' ++ [UInt8.ofNat (c.toNat - 1)] ++ List.replicate j 57 ++ [53] = T at *
        have HR := Lib.hid (show ∃ t : List UInt8, Ending.returned (.string ⟨T.toArray⟩) = .returned (.string ⟨t.toArray⟩) ∧ (∀ c ∈ t, isD c = true) ∧ dval t + 5 = dval (a ++ [48]) ∧ t.length = (a ++ [48]).length ∧ Below w.heap.size w (wi.setCell ⟨w.heap.size, p, none⟩ (.int .u8 (y : Int))) from ⟨T, rfl, hdg, hres, hln, hE1⟩)
        clear hst hset hs1 hbv hE1 htk hres hln hdg hget hLM hx hcd hp hpm e1 hlen hy
        go_wp2_with fail
        go_ret
        exact HR.out
      · have t1 : decide ((48 : Int) < (x : Int)) = false := decide_eq_false (by omega)
        have hc48 : c = 48 := UInt8.toNat_inj.1 (by rw [hx]; show x = 48; omega)
        have hset := HB2.out.set p 57
        have hs1 : (b' ++ [c] ++ List.replicate j 57 ++ [53] ++ List.replicate k 0).set p 57 = b' ++ List.replicate (j + 1) 57 ++ [53] ++ List.replicate k 0 := by
          subst hp
          simp [List.replicate_succ]
        rw [hs1] at hset
        have h57 : bv 57 = .int .u8 57 := rfl
        rw [h57] at hset
        have HSE := Lib.hid hset
        have HE3 := Lib.hid (HE2.out.setCell (p := ⟨w.heap.size, p, none⟩) (Nat.le_refl _) (.int .u8 57))
        have HN := Lib.hid (show a = b' ++ List.replicate (j + 1) 48 by rw [HS.out, hc48]; simp [List.replicate_succ])
        clear hset hs1 h57 hget hLM hx hcd hp hpm e1 hlen hc48
        go_wp2_with fail
        refine ⟨⟨b', j + 1, HN.out, by rw [HPP.out], HSE.out, HE3.out⟩, ?_⟩
        show ((p : Int) - 1 + 1).toNat < ((p : Int) + 1).toNat
        omega
end Go.Proofs.YtnajondbdeclmaaGreatDoor
