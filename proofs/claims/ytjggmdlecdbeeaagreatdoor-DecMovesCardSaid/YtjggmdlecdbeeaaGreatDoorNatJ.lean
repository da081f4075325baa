/- The contract of natural numbers' twice. -/
import Derived.Test.YtjggmdlecdbeeaaGreatDoorNatI
namespace Go.Proofs.YtjggmdlecdbeeaaGreatDoor
open Go.RowKit
set_option linter.unusedSimpArgs false
set_option linter.unusedVariables false

theorem twice_step {x k lo hi i more : Nat} {acc l : List Nat} (h1 : x * 2 = lo + W64 * hi) (hl : acc.length = i) (hi' : i < l.length) (hx : l.getD i 0 = x)
    (h : fval W64 acc + W64 ^ i * k = 2 * fval W64 (l.take i) + more) : fval W64 (acc ++ [lo + k]) + W64 ^ (i + 1) * hi = 2 * fval W64 (l.take (i + 1)) + more := by
  have ht : l.take (i + 1) = l.take i ++ [x] := by
    rw [List.take_succ_eq_append_getElem hi']
    congr 2
    rw [← hx]; simp [List.getD, hi']
  rw [ht, fval_snoc, fval_snoc, hl, List.length_take, Nat.min_eq_left (by omega), Nat.pow_succ]
  have e1 : W64 ^ i * (x * 2) = W64 ^ i * lo + W64 ^ i * W64 * hi := by rw [h1, Nat.mul_add, Nat.mul_assoc]
  have e2 : W64 ^ i * (x * 2) = 2 * (W64 ^ i * x) := by rw [← Nat.mul_assoc, Nat.mul_comm _ 2]
  rw [Nat.mul_add, Nat.mul_add]
  omega
/-- A number in a row of its own. -/
def NatVG (x : Nat) (w : World) (e : Ending) (w' : World) : Prop := ∃ A n c, e = .returned (.agg #[.slice A n c]) ∧ NatL w' A n c x ∧ Fresh w.heap.size A ∧ Below w.heap.size w w'
def oneIf (b : Bool) : Nat := if b then 1 else 0

set_option maxRecDepth 100000 in
set_option maxHeartbeats 2000000 in
theorem twice_nat (v : Value) (x : Nat) (more : Bool) (w : World) (hv : NatW w v x) (hx : blen x ≤ 1000000) :
    Calls Tryz.prog 119 #[v, .bool more] w (NatVG (2 * x + oneIf more) w) := by
  obtain ⟨A, n, c, rfl, hl⟩ := hv
  have hn0 := natl_len hl
  have hn : n ≤ 20000 := by omega
  obtain ⟨l, hf, hln, hr, hc⟩ := hl
  have HR := Lib.hid hr
  have HF := Lib.hid hf
  have HLN := Lib.hid hln
  have hmk := fun W => run_mk ei_u64 .i64 .i64 0 (n + 1) (by omega) (by omega) (by omega) W
  have e2 : ((n + 1 : Nat) : Int) = (n : Int) + 1 := by omega
  have e0 : ((0 : Nat) : Int) = 0 := rfl
  rw [e2, e0] at hmk
  have hli : (n : Int) ≤ 20000 := by omega
  have hm1 : oneIf more ≤ 1 := by unfold oneIf; split <;> omega
  have HM1 := Lib.hid hm1
  have hmv : more = false ∧ oneIf more = 0 ∨ more = true ∧ oneIf more = 1 := by cases more <;> simp [oneIf]
  generalize oneIf more = mo at *
  clear hr hf e2 e0 hx hn0 hln hm1
  go_enter Tryz.func119, Tryz.ntmps119
  go_upto_region 3 with fail
  obtain ⟨W0, hW0⟩ : ∃ W0, W0 = (w.alloc (.cells #[.slice A n c] 126)).alloc (.cells #[.slice none 0 0] 126) := ⟨_, rfl⟩
  have hb0 : Below w.heap.size w W0 := by rw [hW0]; go_grown
  have hsz : W0.heap.size = w.heap.size + 1 + 1 := by rw [hW0]; simp
  have ca : W0.cell? ⟨w.heap.size, 0, none⟩ = some (.slice A n c) := by rw [hW0]; exact keepc (below_new _ _) (by simp) (by simp)
  have hbk : Blk W0 (w.heap.size + 1) 126 #[.slice none 0 0] := by
    have := Blk.new (w.alloc (.cells #[.slice A n c] 126)) 126 #[.slice none 0 0]
    simp only [World.size_alloc] at this
    rw [hW0]; exact this
  rw [← hW0]
  have HB0 := Lib.hid hb0
  have HSZ := Lib.hid hsz
  have HBK := Lib.hid hbk
  have HA := Lib.hid ca
  have ca1 : (W0.alloc (.cells (zs (.int .u64 0) (n + 1)).toArray 28)).cell? ⟨w.heap.size, 0, none⟩ = some (.slice A n c) := keepc (below_new _ _) (by omega) ca
  clear hW0 hb0 hbk ca
  have HO := Lib.hid (made_own (e := 28) (z := .int .u64 0) (ok := okW) W0 W0.heap.size (Nat.le_refl _) 0 (n + 1) (by omega) (by omega) okW0)
  rw [hsz] at HO
  rcases hmv with ⟨rfl, hmo⟩ | ⟨rfl, hmo⟩
  all_goals
    go_wp2_with fail
    go_loopw [5, 6, 18] (fun s5 s6 s18 wr => ∃ (k j : Nat) (acc : List Nat), j ≤ n ∧ s18 = .int .i64 j ∧ s6 = wv k ∧ k ≤ 1 ∧ acc.length = j ∧ Figs W64 acc ∧ fval W64 acc + W64 ^ j * k = 2 * fval W64 (l.take j) + mo ∧
        OwnR wr (w.heap.size + 1 + 1) 28 okW s5 j (acc.map wv) ∧ Below W0.heap.size W0 wr) (fun _ _ i _ => n - (intOf i).toNat)
    case atStart => exact ⟨mo, 0, [], by omega, rfl, by rw [hmo]; rfl, HM1.out, rfl, Figs.nil _, by simp [fval], HO.out, below_new _ _⟩
    case round =>
      obtain ⟨k, j, acc, hj, rfl, rfl, hk, ha, hfa, hv, hu, hbel⟩ := hrel
      have HA' := Lib.hid ha
      have HFA := Lib.hid hfa
      have HV := Lib.hid hv
      have HU := Lib.hid hu
      have HBE := Lib.hid hbel
      have hszr := hbel.size
      rw [HSZ.out] at hszr
      have HBW := Lib.hid (keepb HB0.out hbel)
      obtain ⟨A1, c1, hu', hc1⟩ := hu.shape
      subst hu'
      clear ha hfa hv hu hbel
      by_cases hlt : j < n
      · obtain ⟨g, o, rfl, hl0⟩ := (HR.out.below HBW.out).cell j (by simp; rw [HLN.out]; exact hlt)
        rw [List.getElem_map] at hl0
        have hjl : j < l.length := by rw [HLN.out]; exact hlt
        have hlx : l.getD j 0 = l[j] := by simp [List.getD, hjl]
        have hxw : l[j] < W64 := HF.out.figs _ (List.getElem_mem _)
        have HLX := Lib.hid hlx
        clear hlx
        generalize l[j] = X at *
        have hs1 : IntKind.u64.wrap ((X : Int) * 2) = ((X * 2 % W64 : Nat) : Int) := by have := mul_w X 2; exact this
        have hs2 : (X : Int) / 9223372036854775808 = ((X / 9223372036854775808 : Nat) : Int) := by omega
        have HX2 := Lib.hid (show X * 2 = X * 2 % W64 + W64 * (X / 9223372036854775808) by unfold W64 at *; omega)
        have hlo : ∃ m, X * 2 % W64 = m * 2 ^ 1 := ⟨X * 2 % W64 / 2, by unfold W64; omega⟩
        have hsum : X * 2 % W64 + k < W64 := by unfold W64; omega
        have ho := orN hlo (show k < 2 ^ 1 by omega) hsum
        have HSUM := Lib.hid hsum
        have hhi : X / 9223372036854775808 ≤ 1 := by unfold W64 at hxw; omega
        clear hlo hsum hxw
        generalize X * 2 % W64 = lo at *
        generalize X / 9223372036854775808 = hi at *
        have HST := Lib.hid (twice_step HX2.out HA'.out hjl HLX.out HV.out)
        have q : (j : Int) < n := by omega
        clear hjl
        generalize lo + k = z at *
        go_wp2_with (at_builtin; refine wpList_app ei_u64 okW0 rfl (.tmp 22) (.tmp 27) rfl (w.heap.size + 1 + 1) _ _ _ rfl (HU.out.below (below_new _ _)) _ _ _ _ _ rfl (RV.fresh wr 28 [wv z]) (fun u hu => by simp at hu; subst hu; rfl) (show j + 1 ≤ _ by omega) (show (j + 1) * 8 ≤ _ by omega) (Nat.le_trans hszr (below_new _ _).size) ?_; intro A3 c3 w3 hu3 hg3 ha3)
        go_roundw
        case rel => exact ⟨hi, j + 1, acc ++ [z], by omega, by go_num, rfl, hhi, by simp [HA'.out], HFA.out.snoc HSUM.out, HST.out, by rw [List.map_append]; exact hu3, (HBE.out.alloc (by rw [HSZ.out]; omega) _).grown hg3 (by simp; rw [HSZ.out]; omega) (fun t ht => by rw [HSZ.out]; exact (HU.out.lt t ht).1)⟩
        case measure => simp [intOf]; omega
      · obtain rfl : j = n := by omega
        have hszw := HBE.out.size
        have HVV := Lib.hid (show fval W64 (acc ++ [k]) = 2 * x + mo by rw [fval_snoc, HA'.out, HV.out, ← HLN.out, List.take_length, HF.out.val])
        have t1 : decide ((j : Int) < j) = false := by simp
        have HK : Hid (k < W64) := Lib.hid (by unfold W64; omega)
        clear hlt
        go_wp2_with (at_builtin; refine wpList_app ei_u64 okW0 rfl (.tmp 32) (.tmp 34) rfl (w.heap.size + 1 + 1) _ _ _ rfl (HU.out.below (below_new _ _)) _ _ _ _ _ rfl (RV.fresh wr 28 [wv k]) (fun u hu => by simp at hu; subst hu; rfl) (show j + 1 ≤ _ by omega) (show (j + 1) * 8 ≤ _ by omega) (Nat.le_trans hszr (below_new _ _).size) ?_; intro A3 c3 w3 hu3 hg3 ha3)
        have hc3 : j + 1 ≤ c3 := by
          obtain ⟨_, _, he3, hc3⟩ := hu3.shape
          have := (Value.slice.inj he3).2.2; omega
        have HB3 := Lib.hid (show Below W0.heap.size W0 w3 from (HBE.out.alloc hszw _).grown hg3 (by simp; omega) (fun t ht => by rw [HSZ.out]; exact (HU.out.lt t ht).1))
        have HMD := Lib.hid (made_nat2 A3 (j + 1) c3 (2 * x + mo) (acc ++ [k]) w3 (by simp [HA'.out]) (HFA.out.snoc HK.out) HVV.out (by rw [List.map_append]; exact RT.of_own hu3) hc3 (by omega))
        have HBK3 : Hid (Blk w3 (w.heap.size + 1) 126 #[.slice none 0 0]) := HBK.out.below HB3.out (by rw [HSZ.out]; omega)
        have HFR : Hid (Fresh w.heap.size A3) := Lib.hid (fun g o h => Nat.le_trans (by omega) (hu3.fresh g o h))
        clear hu3 hg3 ha3 hc3
        refine HMD.out.mono ?_
        rintro e w4 ⟨n4, rfl, hl4, hb4⟩
        have HB4 := Lib.hid (keepb (keepb HB0.out HB3.out) hb4)
        have HBK4 : Hid (Blk w4 (w.heap.size + 1) 126 #[.slice none 0 0]) := HBK3.out.below hb4 HBK3.out.lt
        have HV4 := Lib.hid hl4
        have hc5 := HBK4.out.cell 0
        have hf5 := HBK4.out.frozen 0
        simp at hc5
        have hp := HBK4.out.put (i := 0) (by simp)
        clear hb4 hl4
        go_wp2_with fail
        exact bodyPost_ret (v := .agg #[.slice A3 n4 c3]) (by simp [results, Tryz.results119, go_sem, hp]) rfl ⟨_, _, _, rfl, HV4.out.set HBK4.out (by decide) _, HFR.out, HB4.out.setCell (show w.heap.size ≤ w.heap.size + 1 by omega) _⟩
end Go.Proofs.YtjggmdlecdbeeaaGreatDoor
