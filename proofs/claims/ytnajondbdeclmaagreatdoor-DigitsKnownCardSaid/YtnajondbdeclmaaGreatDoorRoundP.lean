/- The program's digits: a row of digits, one more (raised), by way of runes. The program's digits: a float without its sign, rounded to so many digits (Rounded). The program's digits: Rounded of any bits, as numbers; how near it is. -/
import Derived.Test.YtnajondbdeclmaaGreatDoorDigZ
import Derived.Test.YtnajondbdeclmaaGreatDoorDigV
import Derived.Laws.IdiomStrings
import Derived.Laws.Cover4
import Derived.Test.YtnajondbdeclmaaGreatDoorDigK
namespace Go.Proofs.YtnajondbdeclmaaGreatDoor
open Go.RowKit
set_option linter.unusedSimpArgs false
set_option linter.unusedVariables false

/-- A byte as a rune of the program. -/
abbrev rv (c : UInt8) : Value := .int .i32 (c.toNat : Int)
theorem get_bang (s : List UInt8) (i : Nat) (h : i < s.length) : (⟨s.toArray⟩ : ByteArray).get! i = s[i] := by
  show (s.toArray)[i]! = s[i]
  rw [getElem!_pos s.toArray i (by simpa using h)]
  simp
theorem decode_ascii (s : List UInt8) (i : Nat) (h : i < s.length) (ha : s[i].toNat < 128) : Utf8.decode ⟨s.toArray⟩ i = (s[i].toNat, 1) := by
  unfold Utf8.decode
  simp only [Nat.add_zero, get_bang s i h]
  rw [if_pos ha]
theorem runesFrom_ascii (s : List UInt8) (ha : ∀ c ∈ s, c.toNat < 128) : ∀ (k i : Nat) (acc : Array Value), s.length ≤ i + k → Conv.runesFrom ⟨s.toArray⟩ k i acc = acc ++ ((s.drop i).map rv).toArray := by
  intro k
  induction k with
  | zero =>
    intro i acc h
    rw [List.drop_eq_nil_of_le (by omega)]
    simp [Conv.runesFrom]
  | succ k ih =>
    intro i acc h
    unfold Conv.runesFrom
    by_cases hi : i < s.length
    · have hs : i < (⟨s.toArray⟩ : ByteArray).size := hi
      rw [if_pos hs, decode_ascii s i hi (ha _ (List.getElem_mem hi))]
      simp only
      rw [ih (i + 1) _ (by omega)]
      conv => rhs; rw [List.drop_eq_getElem_cons hi, List.map_cons]
      apply Array.ext'
      simp [-List.map_drop]
    · have hs : ¬ i < (⟨s.toArray⟩ : ByteArray).size := hi
      rw [if_neg hs, List.drop_eq_nil_of_le (by omega)]
      simp
theorem encode_ascii (c : UInt8) (h : c.toNat < 128) : Utf8.encode (c.toNat : Int) = ⟨#[c]⟩ := by
  unfold Utf8.encode
  have hv : Utf8.valid (c.toNat : Int) = true := by
    unfold Utf8.valid
    simp
    left
    omega
  simp only [hv, if_true, Int.toNat_natCast]
  rw [if_pos h]
  simp
theorem runesBytes_ascii (L : List UInt8) (ha : ∀ c ∈ L, c.toNat < 128) : runesBytes (L.map fun c => (c.toNat : Int)) = ⟨L.toArray⟩ := by
  unfold runesBytes
  have key : ∀ (L acc : List UInt8), (∀ c ∈ L, c.toNat < 128) → (L.map fun c => (c.toNat : Int)).foldl (fun r n => r ++ Utf8.encode n) ⟨acc.toArray⟩ = ⟨(acc ++ L).toArray⟩ := by
    intro L
    induction L with
    | nil => intro acc _; simp
    | cons c L ih =>
      intro acc h
      rw [List.map_cons, List.foldl_cons, encode_ascii c (h c (List.mem_cons_self ..))]
      have e : (⟨acc.toArray⟩ : ByteArray) ++ ⟨#[c]⟩ = ⟨(acc ++ [c]).toArray⟩ := sv_cat acc [c]
      rw [e, ih (acc ++ [c]) (fun d hd => h d (List.mem_cons_of_mem _ hd))]
      simp
  exact key L [] ha
/-- A row of runes with room behind it. -/
def rcells (L : List UInt8) (k : Nat) : Array Value := (L.map rv ++ List.replicate k (Value.int .i32 0)).toArray
theorem runes_in (s : List UInt8) (w : World) (ha : ∀ c ∈ s, c.toNat < 128) (hl : s.length ≤ 1000000) :
    ∃ k, (convert 9 142 (.string ⟨s.toArray⟩)).run Tryz.prog w = .ok (.slice (some ⟨w.heap.size, 0, none⟩) s.length (s.length + k)) (w.drew.alloc (.cells (rcells s k) 21)) := by
  have hr := runesFrom_ascii s ha s.length 0 #[] (by omega)
  have hsz : (⟨s.toArray⟩ : ByteArray).size = s.length := rfl
  have h := run_runes_of_string w 9 142 21 ⟨s.toArray⟩ (P := Tryz.prog) Tryz.underlying9 Tryz.underlying142 Tryz.underlying21 (by rw [hsz, hr]; simp; omega)
  rw [hsz, hr] at h
  simp only [List.drop_zero, Array.empty_append, List.size_toArray, List.length_map] at h
  have hg := grownCap_ge w s.length 0 21
  obtain ⟨k, hk⟩ : ∃ k, grownCap w s.length 0 21 = s.length + k := ⟨grownCap w s.length 0 21 - s.length, by omega⟩
  rw [hk, show s.length + k - s.length = k by omega] at h
  refine ⟨k, ?_⟩
  have e : (s.map rv).toArray ++ Array.replicate k (Value.int .i32 0) = (s.map rv ++ List.replicate k (Value.int .i32 0)).toArray := by apply Array.ext'; simp
  rw [h, e]
  rfl
theorem runes_out (L : List UInt8) (k g : Nat) (w : World) (cap : Nat) (ha : ∀ c ∈ L, c.toNat < 128) (hb : Blk w g 21 (rcells L k)) (n : Nat) (hn : n = L.length) :
    (convert 142 9 (.slice (some ⟨g, 0, none⟩) n cap)).run Tryz.prog w = .ok (.string ⟨L.toArray⟩) w := by
  subst hn
  have hz : ((L.map fun c : UInt8 => (c.toNat : Int)) ++ List.replicate k 0).take L.length = L.map fun c : UInt8 => (c.toNat : Int) := by
    rw [List.take_append_of_le_length (by simp)]
    exact List.take_of_length_le (by simp)
  have h := run_convert_runes (P := Tryz.prog) w 142 9 21 ⟨g, 0, none⟩ L.length cap ((L.map fun c : UInt8 => (c.toNat : Int)) ++ List.replicate k 0) (by simp) Tryz.underlying142 Tryz.underlying21 Tryz.underlying9 (fun j hj => by
    have hadd : (⟨g, 0, none⟩ : Addr).add j = ⟨g, j, none⟩ := by unfold Addr.add; split <;> simp_all
    rw [hadd, hb.cell]
    unfold rcells
    rw [List.getElem?_toArray]
    simp only [List.length_append, List.length_map, List.length_replicate] at hj
    rcases Nat.lt_or_ge j L.length with h1 | h1
    · rw [List.getElem?_append_left (by simpa using h1), List.getD_eq_getElem?_getD, List.getElem?_append_left (by simpa using h1)]
      simp [h1]
    · rw [List.getElem?_append_right (by simpa using h1), List.getD_eq_getElem?_getD, List.getElem?_append_right (by simpa using h1)]
      simp
      rw [List.getElem?_replicate, if_pos (by omega)]
      simp [List.getElem?_replicate, show j - L.length < k by omega])
  rw [hz, runesBytes_ascii L ha] at h
  exact h
theorem isD_ascii {c : UInt8} (h : isD c = true) : c.toNat < 128 := by have := of_decide_eq_true h; omega
/-- One more: a row of digits whose last ones are nines. -/
theorem dval_nines (j : Nat) : dval (List.replicate j 57) + 1 = 10 ^ j := by
  induction j with
  | zero => rfl
  | succ j ih =>
    rw [List.replicate_succ', dval_snoc, Nat.pow_succ, ← ih]
    show 10 * dval (List.replicate j 57) + 9 + 1 = _
    omega
theorem isD_nines {j : Nat} {c : UInt8} (h : c ∈ List.replicate j (57 : UInt8)) : isD c = true := by rw [List.eq_of_mem_replicate h]; rfl
theorem inc_all (j : Nat) : 49 :: List.replicate j 48 = dtext (dval (List.replicate j 57) + 1) := by
  have h : dval (49 :: List.replicate j 48) = dval (List.replicate j 57) + 1 := by
    rw [dval_cons, dval_zeros, dval_nines, List.length_replicate]
    show 1 * 10 ^ j + 0 = 10 ^ j
    omega
  rw [← h]
  refine (dtext_canon (fun c hc => ?_) (by simp) (.inl (by simp))).symm
  rcases List.mem_cons.1 hc with h1 | h1
  · rw [h1]; rfl
  · exact isD_rep h1
theorem inc_stop {a : List UInt8} {c : UInt8} {j : Nat} (hd : ∀ x ∈ a ++ [c], isD x = true) (hc : c.toNat < 57) (hh : (a ++ [c]).head? ≠ some 48) :
    a ++ [UInt8.ofNat (c.toNat + 1)] ++ List.replicate j 48 = dtext (dval (a ++ [c] ++ List.replicate j 57) + 1) := by
  have hcd := of_decide_eq_true (hd c (by simp))
  have hx : (UInt8.ofNat (c.toNat + 1)).toNat = c.toNat + 1 := by rw [UInt8.toNat_ofNat']; exact Nat.mod_eq_of_lt (by omega)
  have hv : dval (a ++ [UInt8.ofNat (c.toNat + 1)] ++ List.replicate j 48) = dval (a ++ [c] ++ List.replicate j 57) + 1 := by
    rw [dval_append, dval_append (a ++ [c]), dval_zeros, List.length_replicate, List.length_replicate, dval_snoc, dval_snoc, hx, Nat.add_assoc, dval_nines]
    have : 10 * dval a + (c.toNat + 1 - 48) = (10 * dval a + (c.toNat - 48)) + 1 := by omega
    rw [this, Nat.add_mul]
    omega
  rw [← hv]
  refine (dtext_canon (fun x hx2 => ?_) (by simp) (.inl ?_)).symm
  · rcases List.mem_append.1 hx2 with h1 | h1
    · rcases List.mem_append.1 h1 with h2 | h2
      · exact hd x (List.mem_append_left _ h2)
      · rw [List.mem_singleton.1 h2]
        unfold isD
        rw [hx]
        exact decide_eq_true (by omega)
    · exact isD_rep h1
  · cases a with
    | nil =>
      intro h
      have h2 : UInt8.ofNat (c.toNat + 1) = 48 := h
      have h3 := congrArg UInt8.toNat h2
      rw [hx] at h3
      have : (48 : UInt8).toNat = 48 := rfl
      omega
    | cons y a =>
      intro h
      apply hh
      have h2 : y = 48 := h
      rw [h2]; rfl
theorem rcells_get (L : List UInt8) (k i : Nat) (h : i < L.length) : (rcells L k)[i]? = some (rv L[i]) := by
  unfold rcells
  rw [List.getElem?_toArray, List.getElem?_append_left (by simpa using h)]
  simp [h]
theorem rcells_set (L : List UInt8) (k i : Nat) (h : i < L.length) (c : UInt8) : (rcells L k).setIfInBounds i (rv c) = rcells (L.set i c) k := by
  unfold rcells
  rw [List.setIfInBounds_toArray, List.set_append_left _ _ (by simpa using h), List.map_set]
theorem Blk.setr {w : World} {g k i : Nat} {L : List UInt8} (h : Blk w g 21 (rcells L k)) (hi : i < L.length) (c : UInt8) : Blk (w.setCell ⟨g, i, none⟩ (rv c)) g 21 (rcells (L.set i c) k) := by
  rw [← rcells_set L k i hi c]
  exact h.set1 i (rv c)
set_option maxRecDepth 100000 in
set_option maxHeartbeats 4000000 in
theorem raised_any (s : List UInt8) (hd : ∀ c ∈ s, isD c = true) (h0 : s ≠ []) (hh : s.head? ≠ some 48) (hl : s.length ≤ 100000) (w : World) :
    Calls Tryz.prog 75 #[.string ⟨s.toArray⟩] w fun e w' => e = .returned (.string ⟨(dtext (dval s + 1)).toArray⟩) ∧ Below w.heap.size w w' := by
  obtain ⟨k, hcv⟩ := runes_in s w (fun c hc => isD_ascii (hd c hc)) (by omega)
  have HD := Lib.hid hd
  have HH := Lib.hid hh
  obtain ⟨N, hN⟩ : ∃ N, s.length = N := ⟨_, rfl⟩
  have HN := Lib.hid hN
  rw [hN] at hcv
  have hNI : (N : Int) ≤ 100000 := by omega
  have hN0 : 0 < N := by rw [← hN]; exact List.length_pos_iff.2 h0
  have k1 : IntKind.i64.wrap ((N : Int) - 1) = (N : Int) - 1 := IntWalk.i64_in _ (by omega)
  have BS := Lib.hid (Blk.new w 21 (rcells s k)).drew
  have BB := Lib.hid (below_new w (.cells (rcells s k) 21)).drew
  clear hd h0 hh hl hN
  go_enter Tryz.func75, Tryz.ntmps75
  go_wp2_with fail
  clear hcv
  generalize (w.alloc (.cells (rcells s k) 21)).drew = W0 at *
  go_loopw [4] (fun s4 wr => ∃ (a : List UInt8) (j : Nat), s = a ++ List.replicate j 57 ∧ s4 = .int .i64 ((a.length : Int) - 1) ∧ Blk wr w.heap.size 21 (rcells (a ++ List.replicate j 48) k) ∧ Below w.heap.size w wr) (fun s4 _ => (intOf s4 + 1).toNat)
  case atStart => exact ⟨s, 0, by simp, by rw [HN.out], by simpa using BS.out, BB.out⟩
  case round =>
    obtain ⟨a, j, hs, rfl, hblk, hbel⟩ := hrel
    obtain ⟨wi, rfl⟩ : ∃ wi : World, wi = wr := ⟨_, rfl⟩
    have HS := Lib.hid hs
    have HB := Lib.hid hblk
    have HE := Lib.hid hbel
    clear hs hblk hbel
    have hlen : a.length + j = N := by rw [← HN.out, HS.out]; simp
    rcases List.eq_nil_or_concat a with rfl | ⟨a', c, rfl⟩
    · have HO := Lib.hid (fun W (h : Blk W w.heap.size 21 (rcells ([] ++ List.replicate j 48) k)) => runes_out (List.replicate j 48) k w.heap.size W (N + k) (fun c hc => isD_ascii (isD_rep hc)) h N (by rw [List.length_replicate, ← hlen]; simp))
      have hco := HO.out wi HB.out
      have HV := Lib.hid (show dtext (dval s + 1) = [49] ++ List.replicate j 48 by rw [HS.out, List.nil_append, ← inc_all]; rfl)
      have hcat := sv_cat [49] (List.replicate j 48)
      have hjI : ((List.replicate j (48 : UInt8)).length : Int) ≤ 100000 := by rw [List.length_replicate]; simp at hlen; omega
      have e1 : (([] : List UInt8).length : Int) - 1 = -1 := rfl
      rw [e1]
      clear hlen e1
      generalize List.replicate j (48 : UInt8) = Z at *
      go_wp2_with fail
      go_ret
      exact ⟨by rw [HV.out] <;> rfl, HE.out⟩
    · rw [List.concat_eq_append] at *
      obtain ⟨M, hM⟩ : ∃ M, a'.length = M := ⟨_, rfl⟩
      have e1 : ((a' ++ [c]).length : Int) - 1 = (M : Int) := by rw [List.length_append, List.length_singleton]; omega
      have hMN : M + 1 + j = N := by rw [← hlen, List.length_append, List.length_singleton, hM]
      have hcd := of_decide_eq_true (HD.out c (by rw [HS.out]; simp))
      have hLM : (a' ++ [c] ++ List.replicate j 48).length = N := by simp; omega
      have hget : (a' ++ [c] ++ List.replicate j 48)[M]'(by omega) = c := by
        subst hM
        simp
      have cM : wi.cell? ⟨w.heap.size, M, none⟩ = some (rv c) := by rw [HB.out.cell, rcells_get _ _ _ (by omega), hget]
      have fM : wi.frozen? ⟨w.heap.size, M, none⟩ = false := HB.out.frozen M
      obtain ⟨x, hx⟩ : ∃ x, c.toNat = x := ⟨_, rfl⟩
      obtain ⟨y, hy⟩ : ∃ y, x + 1 = y := ⟨_, rfl⟩
      have hyc : (UInt8.ofNat y).toNat = y := by rw [UInt8.toNat_ofNat']; exact Nat.mod_eq_of_lt (by omega)
      have HB1 := Lib.hid (HB.out.setr (i := M) (by omega) (UInt8.ofNat y))
      have hs1 : (a' ++ [c] ++ List.replicate j 48).set M (UInt8.ofNat y) = a' ++ [UInt8.ofNat y] ++ List.replicate j 48 := by
        subst hM
        simp
      rw [hs1] at HB1
      have hrv : rv (UInt8.ofNat y) = .int .i32 (y : Int) := by unfold rv; rw [hyc]
      rw [hrv] at HB1
      have HE1 := Lib.hid (HE.out.setCell (p := ⟨w.heap.size, M, none⟩) (Nat.le_refl _) (.int .i32 (y : Int)))
      have hxI : (x : Int) ≤ 57 := by omega
      have hx0 : (48 : Int) ≤ (x : Int) := by omega
      have ky : (x : Int) + 1 = (y : Int) := by omega
      have hMI : (M : Int) ≤ 100000 := by omega
      have t0 : decide ((0 : Int) ≤ (M : Int)) = true := decide_eq_true (by omega)
      have hMlt : M < N := by omega
      have cM2 : wi.cell? ⟨w.heap.size, M, none⟩ = some (.int .i32 (x : Int)) := by rw [cM]; unfold rv; rw [hx]
      have HX := Lib.hid hx
      have HY := Lib.hid hy
      have HCD := Lib.hid hcd
      have HMM := Lib.hid hM
      have HMN := Lib.hid hMN
      clear hlen hget hLM cM hs1 hrv hyc hx hy hcd hM hMN
      rw [e1]
      clear e1
      go_upto_region 6 with fail
      obtain ⟨W1, hW1⟩ : ∃ W1, wi.setCell ⟨w.heap.size, M, none⟩ (.int .i32 (y : Int)) = W1 := ⟨_, rfl⟩
      rw [hW1] at HB1 HE1 ⊢
      clear hW1 cM2 fM ky
      have hyr : 48 ≤ y ∧ y ≤ 58 := by have := HX.out; have := HY.out; omega
      have c1 : W1.cell? ⟨w.heap.size, M, none⟩ = some (.int .i32 (y : Int)) := by
        have h1 := HMM.out
        have h2 := HMN.out
        rw [HB1.out.cell, rcells_get _ _ _ (by simp; omega)]
        subst h1
        simp
        omega
      have f1 : W1.frozen? ⟨w.heap.size, M, none⟩ = false := HB1.out.frozen M
      by_cases h9 : y ≤ 57
      · have t1 : decide ((y : Int) ≤ 57) = true := decide_eq_true (by omega)
        have hco := runes_out (a' ++ [UInt8.ofNat y] ++ List.replicate j 48) k w.heap.size W1 (N + k) (fun d hdd => by
          rcases List.mem_append.1 hdd with h1 | h1
          · rcases List.mem_append.1 h1 with h2 | h2
            · exact isD_ascii (HD.out d (by rw [HS.out]; simp [h2]))
            · rw [List.mem_singleton.1 h2, UInt8.toNat_ofNat']
              have := Nat.mod_eq_of_lt (show y < 2 ^ 8 by omega)
              omega
          · exact isD_ascii (isD_rep h1)) HB1.out N (by have := HMM.out; have := HMN.out; simp; omega)
        have HV := Lib.hid (show dtext (dval s + 1) = a' ++ [UInt8.ofNat y] ++ List.replicate j 48 by
          rw [HS.out, ← inc_stop (a := a') (c := c) (j := j) (fun z hz => HD.out z (by rw [HS.out]; exact List.mem_append_left _ hz)) (by have := HX.out; have := HY.out; omega) (by
            intro h
            apply HH.out
            rw [HS.out, List.head?_append, h]
            rfl), HX.out, HY.out])
        clear h9 hyr f1
        generalize a' ++ [UInt8.ofNat y] ++ List.replicate j 48 = Z at *
        go_wp2_with fail
        go_ret
        exact ⟨by rw [HV.out] <;> rfl, HE1.out⟩
      · have t1 : decide ((y : Int) ≤ 57) = false := decide_eq_false (by omega)
        have hy58 : y = 58 := by omega
        have hc57 : c = 57 := by
          have h1 := HX.out
          have h2 := HY.out
          apply UInt8.toNat_inj.1
          rw [h1]
          show x = 57
          omega
        have HB2 := Lib.hid (HB1.out.setr (i := M) (by have := HMM.out; have := HMN.out; simp; omega) 48)
        have hs2 : (a' ++ [UInt8.ofNat y] ++ List.replicate j 48).set M 48 = a' ++ List.replicate (j + 1) 48 := by
          have h1 := HMM.out
          subst h1
          simp [List.replicate_succ]
        rw [hs2] at HB2
        have hr48 : rv 48 = .int .i32 48 := rfl
        rw [hr48] at HB2
        have HE2 := Lib.hid (HE1.out.setCell (p := ⟨w.heap.size, M, none⟩) (Nat.le_refl _) (.int .i32 48))
        have HSS := Lib.hid (show s = a' ++ List.replicate (j + 1) 57 by rw [HS.out, hc57, List.replicate_succ]; simp)
        have km : IntKind.i64.wrap ((M : Int) - 1) = (M : Int) - 1 := IntWalk.i64_in _ (by omega)
        clear h9 hyr hs2 hr48 hc57 hy58
        go_wp2_with fail
        go_roundw
        case rel => exact ⟨a', j + 1, HSS.out, by rw [HMM.out], HB2.out, HE2.out⟩
        case measure => simp [intOf]
end Go.Proofs.YtnajondbdeclmaaGreatDoor

namespace Go.Proofs.YtnajondbdeclmaaGreatDoor
open Go.RowKit
attribute [local go_sem] SGives_value SGives_skip SGives_enter CGives_value CGives_skip CGives_enter MGives_value MGives_skip MGives_enter
set_option linter.unusedSimpArgs false
set_option linter.unusedVariables false

theorem less_val : ∀ l m : List UInt8, (∀ c ∈ l, isD c = true) → (∀ c ∈ m, isD c = true) → l.length = m.length → Op.bytesLess l m = decide (dval l < dval m)
  | [], [], _, _, _ => rfl
  | [], _ :: _, _, _, h => by simp at h
  | _ :: _, [], _, _, h => by simp at h
  | x :: l, y :: m, hl, hm, h => by
    have hlen : l.length = m.length := by simpa using h
    have hll : dval l < 10 ^ l.length := dval_lt l fun c hc => hl c (List.mem_cons_of_mem _ hc)
    have hmm : dval m < 10 ^ m.length := dval_lt m fun c hc => hm c (List.mem_cons_of_mem _ hc)
    have ih := less_val l m (fun c hc => hl c (List.mem_cons_of_mem _ hc)) (fun c hc => hm c (List.mem_cons_of_mem _ hc)) hlen
    have hx := of_decide_eq_true (hl x List.mem_cons_self)
    have hy := of_decide_eq_true (hm y List.mem_cons_self)
    rw [dval_cons, dval_cons, hlen]
    rw [hlen] at hll
    show (decide (x < y) || (x == y && Op.bytesLess l m)) = _
    rw [ih]
    generalize 10 ^ m.length = P at *
    rcases u8_tri x y with k | k | k
    · have k' := UInt8.lt_iff_toNat_lt.1 k
      have h1 : (x.toNat - 48 + 1) * P ≤ (y.toNat - 48) * P := Nat.mul_le_mul_right _ (by omega)
      rw [Nat.add_mul] at h1
      rw [decide_eq_true k, Bool.true_or, decide_eq_true (by omega)]
    · subst k
      rw [decide_eq_false (u8_irr x), Bool.false_or, beq_self_eq_true, Bool.true_and, decide_eq_decide]
      omega
    · have k' := UInt8.lt_iff_toNat_lt.1 k
      have h1 : (y.toNat - 48 + 1) * P ≤ (x.toNat - 48) * P := Nat.mul_le_mul_right _ (by omega)
      rw [Nat.add_mul] at h1
      have hne : (x == y) = false := by rw [beq_eq_false_iff_ne]; intro e; rw [e] at k; exact u8_irr y k
      rw [decide_eq_false (u8_asymm k), Bool.false_or, hne, Bool.false_and, decide_eq_false (by omega)]
theorem eq_val {l m : List UInt8} (hl : ∀ c ∈ l, isD c = true) (hm : ∀ c ∈ m, isD c = true) (h : l.length = m.length) : (l == m) = decide (dval l = dval m) := by
  have a := less_val l m hl hm h
  have b := less_val m l hm hl h.symm
  rw [Bool.eq_iff_iff, beq_iff_eq, decide_eq_true_eq]
  refine ⟨fun e => by rw [e], fun e => ?_⟩
  rw [decide_eq_false (by omega)] at a b
  have key : ∀ l m : List UInt8, l.length = m.length → Op.bytesLess l m = false → Op.bytesLess m l = false → l = m := by
    intro l
    induction l with
    | nil => intro m h _ _; cases m with
      | nil => rfl
      | cons y m => simp at h
    | cons x l ih =>
      intro m h h1 h2
      cases m with
      | nil => simp at h
      | cons y m =>
        have h1' : (decide (x < y) || (x == y && Op.bytesLess l m)) = false := h1
        have h2' : (decide (y < x) || (y == x && Op.bytesLess m l)) = false := h2
        simp only [Bool.or_eq_false_iff, decide_eq_false_iff_not] at h1' h2'
        have hxy : x = y := by
          rcases u8_tri x y with k | k | k
          · exact absurd k h1'.1
          · exact k
          · exact absurd k h2'.1
        subst hxy
        simp only [beq_self_eq_true, Bool.true_and] at h1' h2'
        rw [ih m (by simpa using h) h1'.2 h2'.2]
  exact key l m h a b

/-- The half of a row of digits that is cut off. -/
def halfL (j : Nat) : List UInt8 := [53] ++ List.replicate (j - 1) 48
/-- Digits, rounded to so many. -/
def upL (s : List UInt8) (k : Nat) : Bool := (!(Op.bytesLess (s.drop k) (halfL (s.length - k)) || s.drop k == halfL (s.length - k))) || (s.drop k == halfL (s.length - k) && bt (s.take k) (k - 1) % 2 == 1)
def roundL (s : List UInt8) (k : Nat) : List UInt8 := if k < s.length then (if upL s k then dtext (dval (s.take k) + 1) else s.take k) ++ List.replicate (s.length - k) 48 else s

set_option maxRecDepth 100000 in
set_option maxHeartbeats 4000000 in
theorem rounded_walk (n m k S : Nat) (q : Int) (s : List UInt8) (w : World)
    (HP : Hid (∀ W, Calls Tryz.prog 45 #[.int .u64 n] W fun e w' => e = .returned (.tuple #[.int .u64 (m : Nat), .int .i64 q, .bool true]) ∧ W = w'))
    (HSC : Hid (∀ W, Calls Tryz.prog 46 #[.int .u64 (m : Nat), .int .i64 q] W (NatO S W)))
    (HT : Hid (∀ W A n c, NatL W A n c S → Calls Tryz.prog 50 #[.agg #[.slice A n c]] W fun e w' => e = .returned (.string ⟨s.toArray⟩) ∧ Below W.heap.size W w'))
    (hm : ((m : Int) == 0) = false) (h1 : 1 ≤ k) (h2 : k ≤ 800) (hsl : s.length ≤ 5000) (hd : ∀ c ∈ s, isD c = true) (h0 : s ≠ []) (hh : s.head? ≠ some 48) :
    Calls Tryz.prog 24 #[.int .u64 n, .int .i64 k] w fun e w' => e = .returned (.tuple #[.string ⟨(noughtsR (roundL s k)).toArray⟩, .int .i64 (((roundL s k).length : Int) - 1075), .nilIface]) ∧ Below w.heap.size w w' := by
  have HX : Hid (∀ w e w', NatO S w e w' → ∃ A n c, e = .returned (.agg #[.slice A n c]) ∧ NatL w' A n c S ∧ Below w.heap.size w w') := Lib.hid (fun w e w' h => h)
  generalize NatO S = NO at *
  have HD := Lib.hid hd
  have HH := Lib.hid hh
  have hsI : (s.length : Int) ≤ 5000 := by omega
  have hkI : (k : Int) ≤ 800 := by omega
  have hk1 : (1 : Int) ≤ (k : Int) := by omega
  have t1 : decide ((k : Int) < 1) = false := decide_eq_false (by omega)
  have t2 : decide ((800 : Int) < (k : Int)) = false := decide_eq_false (by omega)
  have t2' : decide (800 < k) = false := decide_eq_false (by omega)
  have HK1 := Lib.hid h1
  have HRL := Lib.hid (show roundL s k = if k < s.length then (if upL s k then dtext (dval (s.take k) + 1) else s.take k) ++ List.replicate (s.length - k) 48 else s from rfl)
  have HRLl : Hid ((roundL s k).length ≤ 1000000) := Lib.hid (by
    unfold roundL
    split
    · rw [List.length_append, List.length_replicate]
      split
      · have : (dtext (dval (s.take k) + 1)).length ≤ k + 1 := by
          refine dtext_len ?_ (by omega)
          have := dval_lt (s.take k) (fun c hc => hd c (List.mem_of_mem_take hc))
          rw [List.length_take, Nat.min_eq_left (by omega)] at this
          rw [Nat.pow_succ]
          omega
        omega
      · rw [List.length_take]; omega
    · omega)
  have HRR := Lib.hid (fun W => drow_any (roundL s k) W (by have := HRLl.out; omega))
  generalize roundL s k = R at *
  clear hd hh h1 h2 hsl
  go_enter Tryz.func24, Tryz.ntmps24
  go_wp2_with fail
  refine (HP.out _).mono ?_
  rintro e w1 ⟨rfl, rfl⟩
  go_wp2_with fail
  refine (HSC.out _).mono ?_
  intro e w2 hE
  obtain ⟨A, m', c, rfl, hN, hb2⟩ := HX.out _ _ _ hE
  clear hE
  have BB := Lib.hid hb2
  have HN := Lib.hid hN
  clear hb2 hN
  go_wp2_with fail
  refine (HT.out _ _ _ _ HN.out).mono ?_
  rintro e w3 ⟨rfl, hb3⟩
  have BB := Lib.hid (keepb BB.out hb3)
  clear hb3 HN HT HP HSC HX
  clear t1 t2 t2' hm
  obtain ⟨tb, htb⟩ : ∃ tb, decide (k < s.length) = tb := ⟨_, rfl⟩
  have htb2 : decide ((k : Int) < (s.length : Int)) = tb := by rw [← htb, decide_eq_decide]; omega
  have HTB := Lib.hid htb
  go_upto_if 41 with fail
  clear htb htb2
  go_cut [10] from 10 to 75 (fun s10 wx => s10 = .string ⟨R.toArray⟩ ∧ Below w.heap.size w wx)
  case first =>
    cases tb with
    | false =>
      have HV := Lib.hid (show R = s by rw [HRL.out, if_neg (by have := of_decide_eq_false HTB.out; exact this)])
      go_wp2_with fail
      go_meet
      exact ⟨by rw [HV.out], BB.out⟩
    | true =>
      have hlt := of_decide_eq_true HTB.out
      have HLT := Lib.hid hlt
      obtain ⟨j, hj⟩ : ∃ j, s.length - k = j := ⟨_, rfl⟩
      have e1 := cut_take s k
      have e2 := cut_drop s k s.length rfl
      have hkl : (k : Int) ≤ (s.length : Int) := by omega
      have hTl : (s.take k).length = k := by rw [List.length_take]; omega
      have hDl : (s.drop k).length = j := by rw [List.length_drop]; exact hj
      have HUP := Lib.hid (show upL s k = ((!(Op.bytesLess (s.drop k) (halfL j) || s.drop k == halfL j)) || (s.drop k == halfL j && bt (s.take k) (k - 1) % 2 == 1)) by unfold upL; rw [hj])
      have HRV := Lib.hid (show R = (if upL s k then dtext (dval (s.take k) + 1) else s.take k) ++ List.replicate j 48 by rw [HRL.out, if_pos hlt, hj])
      have HRA := Lib.hid (fun W => raised_any (s.take k) (fun c hc => HD.out c (List.mem_of_mem_take hc)) (by intro h; have h2 := congrArg List.length h; rw [hTl] at h2; have := HK1.out; simp at h2; omega) (by rw [List.head?_take, if_neg (by have := HK1.out; omega)]; exact HH.out) (by omega) W)
      generalize upL s k = up at *
      generalize s.take k = T at *
      generalize s.drop k = D at *
      have hb4 := bget T (k - 1) (by have := HK1.out; omega)
      have hkT : k - 1 < T.length := by have := HK1.out; omega
      have hj0 : 0 < j := by omega
      have kk : IntKind.i64.wrap ((k : Int) - 1) = ((k - 1 : Nat) : Int) := by rw [IntWalk.i64_in _ (by omega)]; omega
      obtain ⟨z, hz⟩ : ∃ z, j - 1 = z := ⟨_, rfl⟩
      have hzI : (j : Int) - 1 = (z : Int) := by omega
      have kz : IntKind.i64.wrap ((j : Int) - 1) = (z : Int) := by rw [IntWalk.i64_in _ (by omega)]; exact hzI
      have hhl : halfL j = [53] ++ List.replicate z 48 := by unfold halfL; rw [hz]
      have HZ := Lib.hid (fun W => repeat_d z (by omega) W)
      have HJ := Lib.hid (fun W => repeat_d j (by omega) W)
      rw [hhl] at HUP
      have hq1 := sv_cat [53] (List.replicate z 48)
      have lz : ((List.replicate z (48 : UInt8)).length : Int) ≤ 5000 := by rw [List.length_replicate]; omega
      have lj : ((List.replicate j (48 : UInt8)).length : Int) ≤ 5000 := by rw [List.length_replicate]; omega
      have lT : (T.length : Int) ≤ 5000 := by omega
      generalize hHf : [53] ++ List.replicate z (48 : UInt8) = Hf at *
      clear hHf hz hzI hhl hj HRL hlt
      rw [hTl] at lT
      go_upto_region 10 with fail
      go_quiet (fail)
      clear e1 e2
      have HBN := Lib.hid (below_drewN BB.out nq)
      generalize hZZ : List.replicate z (48 : UInt8) = Z at *
      generalize hJJ : List.replicate j (48 : UInt8) = J at *
      clear hZZ hJJ
      go_wp2_with fail
      refine (HZ.out _).mono ?_
      rintro e w4 ⟨rfl, hb⟩
      have HB4 := Lib.hid (keepb HBN.out hb)
      clear hb
      go_upto_region 12 with fail
      generalize hbl : Op.bytesLess D Hf = b1 at *
      go_cut [68] from 53 to 68 (fun s68 wx => s68 = .bool up ∧ w4 = wx)
      case first =>
        by_cases hde : D = Hf
        · have HV := Lib.hid (show up = (bt T (k - 1) % 2 == 1) by rw [HUP.out, hde, beq_self_eq_true, Bool.or_true]; rfl)
          clear HUP hbl
          subst hde
          have hb256 : bt T (k - 1) < 256 := by rw [← hb4]; exact UInt8.toNat_lt _
          generalize bt T (k - 1) = x at *
          have hx0 : (x : Int) < 256 := by omega
          by_cases hp : x % 2 = 1
          · have p1 : ((x : Int) % 2 == 1) = true := by rw [beq_iff_eq]; omega
            have p2 : (x % 2 == 1) = true := by rw [beq_iff_eq]; exact hp
            have HVV := Lib.hid (show up = true by rw [HV.out, p2])
            clear hp
            go_wp2_with fail
            go_meet
            exact ⟨by rw [HVV.out] <;> rfl, rfl⟩
          · have p1 : ((x : Int) % 2 == 1) = false := by rw [beq_eq_false_iff_ne]; omega
            have p2 : (x % 2 == 1) = false := by rw [beq_eq_false_iff_ne]; exact hp
            have HVV := Lib.hid (show up = false by rw [HV.out, p2])
            clear hp
            go_wp2_with fail
            go_meet
            exact ⟨by rw [HVV.out] <;> rfl, rfl⟩
        · have n1 : (D == Hf) = false := by rw [beq_eq_false_iff_ne]; exact hde
          have HV := Lib.hid (show up = !b1 by rw [HUP.out, n1]; simp)
          cases b1
          all_goals
            go_wp2_with fail
            go_meet
            exact ⟨by rw [HV.out] <;> rfl, rfl⟩
      case rest =>
      obtain ⟨rfl, hwx⟩ := hcut
      subst hwx
      clear hbl hb4
      cases up with
      | true =>
        have HV := Lib.hid (show R = dtext (dval T + 1) ++ J by rw [HRV.out]; rfl)
        have hcat := sv_cat (dtext (dval T + 1)) J
        have hlen2 : ((dtext (dval T + 1)).length : Int) ≤ 1000000 := by
          have := HRLl.out
          have := congrArg List.length HV.out
          rw [List.length_append] at this
          omega
        generalize dtext (dval T + 1) = T1 at *
        go_wp2_with fail
        refine (HRA.out _).mono ?_
        rintro e w5 ⟨rfl, hb⟩
        have HB5 := Lib.hid (keepb HB4.out hb)
        clear hb
        go_wp2_with fail
        refine (HJ.out _).mono ?_
        rintro e w6 ⟨rfl, hb⟩
        have HB6 := Lib.hid (keepb HB5.out hb)
        clear hb
        go_wp2_with fail
        go_meet
        exact ⟨by rw [HV.out] <;> rfl, HB6.out⟩
      | false =>
        have HV := Lib.hid (show R = T ++ J by rw [HRV.out]; rfl)
        have hcat := sv_cat T J
        go_wp2_with fail
        refine (HJ.out _).mono ?_
        rintro e w6 ⟨rfl, hb⟩
        have HB6 := Lib.hid (keepb HB4.out hb)
        clear hb
        go_wp2_with fail
        go_meet
        exact ⟨by rw [HV.out] <;> rfl, HB6.out⟩
  case rest =>
  obtain ⟨rfl, hbx⟩ := hcut
  have HBX := Lib.hid hbx
  clear hbx
  go_wp2_with fail
  refine (HRR.out _).mono ?_
  rintro e w4 ⟨rfl, rfl⟩
  go_wp2_with fail
  go_ret3
  exact ⟨rfl, HBX.out⟩
end Go.Proofs.YtnajondbdeclmaaGreatDoor

namespace Go.Proofs.YtnajondbdeclmaaGreatDoor
open Go.RowKit
set_option linter.unusedSimpArgs false
set_option linter.unusedVariables false

/-- Is a number rounded up, whose last digits make p? -/
def upN (S p : Nat) : Bool := decide (p < 2 * (S % p)) || (2 * (S % p) == p && S / p % 2 == 1)
/-- A number, rounded to so many digits. -/
def roundN (S k : Nat) : Nat := if k < lenD S then (S / 10 ^ (lenD S - k) + (if upN S (10 ^ (lenD S - k)) then 1 else 0)) * 10 ^ (lenD S - k) else S
theorem dval_drop {l : List UInt8} (hd : ∀ c ∈ l, isD c = true) (k : Nat) : dval (l.drop k) = dval l % 10 ^ (l.length - k) := by
  have h := dval_append (l.take k) (l.drop k)
  rw [List.take_append_drop] at h
  have h2 := dval_lt (l.drop k) (fun c hc => hd c (List.mem_of_mem_drop hc))
  rw [List.length_drop] at h h2
  rw [h, Nat.mul_add_mod_self_right, Nat.mod_eq_of_lt h2]
theorem halfL_val {j : Nat} (h : 0 < j) : 2 * dval (halfL j) = 10 ^ j := by
  unfold halfL
  rw [dval_append, dval_zeros, List.length_replicate]
  obtain ⟨i, rfl⟩ : ∃ i, j = i + 1 := ⟨j - 1, by omega⟩
  rw [Nat.add_sub_cancel, Nat.pow_succ]
  show 2 * (5 * 10 ^ i + 0) = _
  omega
theorem halfL_digits (j : Nat) : ∀ c ∈ halfL j, isD c = true := by
  intro c hc
  unfold halfL at hc
  rcases List.mem_append.1 hc with h | h
  · rw [List.mem_singleton.1 h]; rfl
  · exact isD_rep h
theorem halfL_len {j : Nat} (h : 0 < j) : (halfL j).length = j := by
  unfold halfL
  rw [List.length_append, List.length_replicate, List.length_singleton]
  omega
theorem bt_par {l : List UInt8} (hd : ∀ c ∈ l, isD c = true) (h0 : l ≠ []) : bt l (l.length - 1) % 2 = dval l % 2 := by
  obtain ⟨m, c, rfl⟩ : ∃ m c, l = m ++ [c] := ⟨l.dropLast, l.getLast h0, (List.dropLast_concat_getLast h0).symm⟩
  have hc := of_decide_eq_true (hd c (by simp))
  have e : bt (m ++ [c]) ((m ++ [c]).length - 1) = c.toNat := bt_some (by simp)
  rw [e, dval_snoc]
  omega
theorem roundL_text {S k : Nat} (h0 : 0 < S) (hk : 1 ≤ k) : roundL (dtext S) k = dtext (roundN S k) := by
  unfold roundL roundN
  show (if k < lenD S then _ else _) = _
  by_cases hlt : k < lenD S
  · rw [if_pos hlt, if_pos hlt]
    have hd := dtext_digits S
    have hl : (dtext S).length = lenD S := rfl
    have hv := head_text S k (Nat.le_of_lt hlt)
    have hdr := dval_drop hd k
    rw [dtext_val, hl] at hdr
    have hge := lenD_ge h0
    have hj : 0 < lenD S - k := by omega
    have hTl : ((dtext S).take k).length = k := by rw [List.length_take, hl]; omega
    have hDl : ((dtext S).drop k).length = lenD S - k := by rw [List.length_drop, hl]
    have hdd : ∀ c ∈ (dtext S).drop k, isD c = true := fun c hc => hd c (List.mem_of_mem_drop hc)
    have hdt : ∀ c ∈ (dtext S).take k, isD c = true := fun c hc => hd c (List.mem_of_mem_take hc)
    have hT0 : (dtext S).take k ≠ [] := by intro h; have := congrArg List.length h; rw [hTl] at this; simp at this; omega
    have hHl := halfL_len hj
    have hlv := halfL_val hj
    have hless := less_val _ _ hdd (halfL_digits (lenD S - k)) (by rw [hDl, hHl])
    have heq := eq_val hdd (halfL_digits (lenD S - k)) (by rw [hDl, hHl])
    have hpar := bt_par hdt hT0
    rw [hTl, hv] at hpar
    rw [hdr] at hless heq
    have hup : upL (dtext S) k = upN S (10 ^ (lenD S - k)) := by
      unfold upL upN
      rw [hl, hless, heq, hpar]
      generalize 10 ^ (lenD S - k) = p at *
      generalize S % p = t at *
      generalize S / p % 2 = q at *
      generalize dval (halfL (lenD S - k)) = H at *
      rcases Nat.lt_trichotomy t H with c | c | c
      · rw [decide_eq_true c, decide_eq_false (show ¬ t = H by omega), decide_eq_false (show ¬ p < 2 * t by omega), show (2 * t == p) = false by rw [beq_eq_false_iff_ne]; omega]
        rfl
      · rw [decide_eq_false (show ¬ t < H by omega), decide_eq_true c, decide_eq_false (show ¬ p < 2 * t by omega), show (2 * t == p) = true by rw [beq_iff_eq]; omega]
        rfl
      · rw [decide_eq_false (show ¬ t < H by omega), decide_eq_false (show ¬ t = H by omega), decide_eq_true (show p < 2 * t by omega)]
        rfl
    rw [hup, hl]
    have hq : 0 < S / 10 ^ (lenD S - k) := by
      refine Nat.div_pos ?_ (pow10 _)
      exact Nat.le_trans (Nat.pow_le_pow_right (by decide) (by omega)) hge
    cases upN S (10 ^ (lenD S - k)) with
    | true =>
      rw [if_pos rfl, if_pos rfl, hv, dtext_mul (by omega)]
    | false =>
      rw [if_neg (by decide), if_neg (by decide), Nat.add_zero, dtext_mul hq]
      congr 1
      rw [← hv]
      refine (dtext_canon hdt hT0 (.inl ?_)).symm
      have hh := dtext_head h0
      cases hdx : dtext S with
      | nil => exact absurd hdx (dtext_ne S)
      | cons c l =>
        rw [hdx] at hh
        cases k with
        | zero => omega
        | succ k =>
          intro e
          apply hh
          have e2 : c = 48 := e
          rw [e2]; rfl
  · rw [if_neg hlt, if_neg hlt]

def roundedV (n : Nat) (k : Int) : Value :=
  if most < n % 9223372036854775808 then .tuple #[.string ⟨#[]⟩, .int .i64 0, enoV 50]
  else if k < 1 ∨ 800 < k then .tuple #[.string ⟨#[]⟩, .int .i64 0, enoV 2]
  else if n % 9223372036854775808 = 0 then .tuple #[.string ⟨#[48]⟩, .int .i64 1, .nilIface]
  else .tuple #[.string ⟨(rowN (roundN (sz (n % 9223372036854775808)) k.toNat)).1.toArray⟩, .int .i64 (rowN (roundN (sz (n % 9223372036854775808)) k.toNat)).2, .nilIface]
theorem rounded_fin (n b k : Nat) (w : World) (hn : n < 18446744073709551616) (hbn : n % 9223372036854775808 = b) (hb : b ≤ most) (h0 : b ≠ 0) (h1 : 1 ≤ k) (h2 : k ≤ 800) :
    Calls Tryz.prog 24 #[.int .u64 n, .int .i64 k] w fun e w' => e = .returned (.tuple #[.string ⟨(rowN (roundN (sz b) k)).1.toArray⟩, .int .i64 (rowN (roundN (sz b) k)).2, .nilIface]) ∧ Below w.heap.size w w' := by
  have hm0 : fltM b ≠ 0 := fun h => h0 ((flt_form b 1074 rfl).2.2.2.1 h)
  have hm1 : fltM b < 2 ^ 56 := by have := (flt_bounds hb).1; omega
  have hk1 : -1075 ≤ fltK b := by have := (flt_bounds hb).2.1; omega
  have hk2 : fltK b ≤ 971 := (flt_bounds hb).2.2
  have hS := sz_lt hb
  have hL := lenD_le hS
  have hp := sz_pos (show 0 < b by omega)
  have h := rounded_walk n (fltM b) k (sz b) (fltK b) (dtext (sz b)) w (Lib.hid (fun W => by rw [← hbn]; exact dparts_fin n W hn (by rw [hbn]; exact hb))) (Lib.hid (fun W => scaled_o (fltM b) (fltK b) (sz b) W hm1 hk1 hk2 (sv5_sz b)))
    (Lib.hid (fun W A m c h => text_nat _ _ W ⟨A, m, c, rfl, h⟩ (Nat.le_trans (big_blen hS) (by decide)))) (by rw [beq_eq_false_iff_ne]; omega) h1 h2 (Nat.le_trans hL (by decide)) (dtext_digits _) (dtext_ne _) (dtext_head hp)
  rw [roundL_text hp h1] at h
  have e : ∀ x, (rowN x).1 = noughtsR (dtext x) ∧ (rowN x).2 = ((dtext x).length : Int) - 1075 := fun x => ⟨rfl, rfl⟩
  generalize roundN (sz b) k = X at *
  rw [(e X).1, (e X).2]
  exact h
set_option maxRecDepth 100000 in
theorem rounded_inf (n : Nat) (k : Int) (w : World) (hn : n < 18446744073709551616) (h : most < n % 9223372036854775808) :
    Calls Tryz.prog 24 #[.int .u64 n, .int .i64 k] w fun e w' => e = .returned (.tuple #[.string ⟨#[]⟩, .int .i64 0, enoV 50]) ∧ Below w.heap.size w w' := by
  have HP := Lib.hid (fun W => dparts_inf n W hn h)
  clear h hn
  go_enter Tryz.func24, Tryz.ntmps24
  go_wp2_with fail
  refine (HP.out _).mono ?_
  rintro e w1 ⟨rfl, rfl⟩
  go_wp2_with fail
  go_ret3
  exact ⟨rfl, Below.refl _ _⟩
set_option maxRecDepth 100000 in
theorem rounded_bad (n : Nat) (k : Int) (w : World) (hn : n < 18446744073709551616) (h : n % 9223372036854775808 ≤ most) (hk : k < 1 ∨ 800 < k) :
    Calls Tryz.prog 24 #[.int .u64 n, .int .i64 k] w fun e w' => e = .returned (.tuple #[.string ⟨#[]⟩, .int .i64 0, enoV 2]) ∧ Below w.heap.size w w' := by
  have HP := Lib.hid (fun W => dparts_fin n W hn h)
  generalize fltM (n % 9223372036854775808) = m at *
  generalize fltK (n % 9223372036854775808) = q at *
  clear h hn
  have hc : (decide (k < 1) = true) ∨ (decide (k < 1) = false ∧ decide (800 < k) = true) := by
    rcases hk with h | h
    · exact .inl (decide_eq_true h)
    · by_cases h2 : k < 1
      · exact .inl (decide_eq_true h2)
      · exact .inr ⟨decide_eq_false h2, decide_eq_true h⟩
  clear hk
  go_enter Tryz.func24, Tryz.ntmps24
  go_wp2_with fail
  refine (HP.out _).mono ?_
  rintro e w1 ⟨rfl, rfl⟩
  rcases hc with t1 | ⟨t1, t2⟩
  all_goals
    go_wp2_with fail
    go_ret3
    exact ⟨rfl, Below.refl _ _⟩
set_option maxRecDepth 100000 in
theorem rounded_zero (n : Nat) (k : Int) (w : World) (hn : n < 18446744073709551616) (h : n % 9223372036854775808 = 0) (hk1 : 1 ≤ k) (hk2 : k ≤ 800) :
    Calls Tryz.prog 24 #[.int .u64 n, .int .i64 k] w fun e w' => e = .returned (.tuple #[.string ⟨#[48]⟩, .int .i64 1, .nilIface]) ∧ Below w.heap.size w w' := by
  have HP := Lib.hid (fun W => dparts_fin n W hn (by rw [h]; decide))
  rw [h] at HP
  have e1 : ((fltM 0 : Nat) : Int) = 0 := rfl
  rw [e1] at HP
  generalize fltK 0 = q at *
  have t1 : decide (k < 1) = false := decide_eq_false (by omega)
  have t2 : decide (800 < k) = false := decide_eq_false (by omega)
  clear h hn e1
  go_enter Tryz.func24, Tryz.ntmps24
  go_wp2_with fail
  refine (HP.out _).mono ?_
  rintro e w1 ⟨rfl, rfl⟩
  go_wp2_with fail
  go_ret3
  exact ⟨rfl, Below.refl _ _⟩
theorem drounded_any (n : Nat) (k : Int) (w : World) (hn : n < 18446744073709551616) :
    Calls Tryz.prog 24 #[.int .u64 n, .int .i64 k] w fun e w' => e = .returned (roundedV n k) ∧ Below w.heap.size w w' := by
  unfold roundedV
  by_cases h : most < n % 9223372036854775808
  · rw [if_pos h]; exact rounded_inf n k w hn h
  · rw [if_neg h]
    by_cases hk : k < 1 ∨ 800 < k
    · rw [if_pos hk]; exact rounded_bad n k w hn (by omega) hk
    · rw [if_neg hk]
      by_cases h0 : n % 9223372036854775808 = 0
      · rw [if_pos h0]; exact rounded_zero n k w hn h0 (by omega) (by omega)
      · rw [if_neg h0]
        have := rounded_fin n _ k.toNat w hn rfl (by omega) h0 (by omega) (by omega)
        rwa [show ((k.toNat : Nat) : Int) = k by omega] at this

/-- What is rounded is as near as half a step. -/
theorem round_near {S k : Nat} (h : k < lenD S) : 2 * roundN S k ≤ 2 * S + 10 ^ (lenD S - k) ∧ 2 * S ≤ 2 * roundN S k + 10 ^ (lenD S - k) ∧ ∃ v, roundN S k = v * 10 ^ (lenD S - k) ∧ (v = S / 10 ^ (lenD S - k) ∨ v = S / 10 ^ (lenD S - k) + 1) := by
  unfold roundN
  rw [if_pos h]
  have hp := pow10 (lenD S - k)
  unfold upN
  generalize 10 ^ (lenD S - k) = p at *
  have hdm := Nat.div_add_mod S p
  have hlt := Nat.mod_lt S hp
  rw [Nat.mul_comm] at hdm
  cases hu : (decide (p < 2 * (S % p)) || (2 * (S % p) == p && S / p % 2 == 1)) with
  | true =>
    rw [if_pos rfl, Nat.add_mul, Nat.one_mul]
    have h2 : p ≤ 2 * (S % p) := by
      simp only [Bool.or_eq_true, decide_eq_true_eq, Bool.and_eq_true, beq_iff_eq] at hu
      omega
    have ev : S / p * p + p = (S / p + 1) * p := by rw [Nat.add_mul, Nat.one_mul]
    refine ⟨?_, ?_, S / p + 1, ev, .inr rfl⟩
    · clear ev; generalize S / p * p = a at *; omega
    · clear ev; generalize S / p * p = a at *; omega
  | false =>
    rw [if_neg (by decide), Nat.add_zero]
    have h2 : 2 * (S % p) ≤ p := by
      simp only [Bool.or_eq_false_iff, decide_eq_false_iff_not] at hu
      omega
    have e : S / p * p = S / p * p := rfl
    refine ⟨?_, ?_, _, rfl, .inl rfl⟩
    · generalize S / p * p = a at *; omega
    · generalize S / p * p = a at *; omega
end Go.Proofs.YtnajondbdeclmaaGreatDoor
