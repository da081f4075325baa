/- The contract of utf.Decode. -/
import Derived.Test.YtmdgopclcdmenaaUtfB
import Derived.IntWalk
namespace Go.Proofs.Ytmdgopclcdmenaa
open Go.RowKit
set_option linter.unusedSimpArgs false
set_option linter.unusedVariables false

/-- A conversion, at a step of a region that draws its order. -/
theorem step_conv {P : Program} {ops : Array Oper} {o : Oper} {a : Act} {K : Act → World → Prop} {Q : Exit → Act → World → Prop} {F : Prop} {w : World} (hgd : o.guard = none) (t1 t2 : TypeId) (x : Operand) (ho : o.op = .convert t1 t2 x)
    (v v' : Value) (w' : World) (hx : a.eval x = v) (hr : (convert t1 t2 v).run P w = .ok v' w') (h : K (a.put o.dst v') w') : if Region.wanted o (yielded ops a.tmps) = true then Oper.wp P o a w K Q else F := by
  have hw : Region.wanted o (yielded ops a.tmps) = true := by simp [Region.wanted, hgd]
  rw [if_pos hw]
  unfold Oper.wp execOp
  simp only [ho, hx, hr, Sem.run_bind, Sem.run_pure, Result.andThen_ok]
  exact h

/-- The runes of one character's form. -/
theorem runes_run (r : Nat) (hr : Scal r) (W : World) : ∃ cap w', (convert 9 39 (.string ⟨(enc r).toArray⟩)).run Try.prog W = .ok (.slice (some ⟨W.heap.size, 0, none⟩) 1 cap) w' ∧
    w'.cell? ⟨W.heap.size, 0, none⟩ = some (.int .i32 r) ∧ Below W.heap.size W w' ∧ 1 ≤ cap ∧ W.heap.size < w'.heap.size := by
  have h1 := runes_one (enc r) r (by have := ch_mid [] [] r hr; simpa using this)
  have hr := run_runes_of_string (P := Try.prog) W 9 39 21 ⟨(enc r).toArray⟩ Try.underlying9 Try.underlying39 Try.underlying21 (by rw [h1]; exact Nat.le_trans (Nat.le_refl 1) (by decide))
  rw [h1] at hr
  simp only [List.size_toArray, List.length_singleton] at hr
  refine ⟨_, _, hr, ?_, (((Below.refl _ _).drew).alloc (Nat.le_refl _) _), grownCap_ge W 1 0 21, by simp⟩
  have := cell_of_row (W.drew.alloc (.cells (#[Value.int .i32 (r : Int)] ++ Array.replicate (grownCap W 1 0 21 - 1) (.int .i32 0)) 21)) W.heap.size 0 _ _ _ (heap_alloc_new W.drew _)
  refine this.trans ?_
  rw [Array.getElem?_append_left (show 0 < (#[Value.int .i32 (r : Int)]).size from Nat.zero_lt_one)]
  rfl
theorem step_runes (r : Nat) (hr : Scal r) {ops : Array Oper} {o : Oper} {a : Act} {K : Act → World → Prop} {Q : Exit → Act → World → Prop} {F : Prop} {W : World} (hgd : o.guard = none) (x : Operand) (ho : o.op = .convert 9 39 x)
    (hx : a.eval x = .string ⟨(enc r).toArray⟩) (h : ∀ cap w', w'.cell? ⟨W.heap.size, 0, none⟩ = some (.int .i32 r) → Below W.heap.size W w' → 1 ≤ cap → W.heap.size < w'.heap.size → K (a.put o.dst (.slice (some ⟨W.heap.size, 0, none⟩) 1 cap)) w') :
    if Region.wanted o (yielded ops a.tmps) = true then Oper.wp Try.prog o a W K Q else F := by
  obtain ⟨cap, w', h1, h2, h3, h4, h5⟩ := runes_run r hr W
  exact step_conv hgd _ _ x ho _ _ _ hx h1 (h cap w' h2 h3 h4 h5)

theorem RB.cut {w : World} {B g o n : Nat} {s : List UInt8} (h : RB w B (some ⟨g, o, none⟩) n s) (i j : Nat) (hij : i + j ≤ n) : RB w B (some ⟨g, o + i, none⟩) j ((s.drop i).take j) := by
  have hl := h.1
  refine ⟨by simp; omega, fun hj => ?_⟩
  obtain ⟨g', o', hA, hg, hc⟩ := h.2 (by omega)
  injection hA with hA
  injection hA with h1 h2
  subst h1 h2
  refine ⟨g, o + i, rfl, hg, fun k hk => ?_⟩
  have hk' : k < j := by simp at hk; omega
  rw [Nat.add_assoc, hc (i + k) (by omega)]
  simp

theorem decode_no (A : Option Addr) (n c : Nat) (at_ : Int) (w : World) (h : at_ < 0 ∨ (n : Int) ≤ at_) (hn : n ≤ 9223372036854775807) :
    Calls Try.prog 18 #[.slice A n c, .int .i64 at_] w fun e w' => e = .returned (.tuple #[.int .i32 0, .int .i64 0, eno 2]) ∧ w = w' := by
  by_cases h0 : at_ < 0
  · clear h
    go_enter Try.func18, Try.ntmps18
    go_wp2
    go_ret3
    exact ⟨rfl, rfl⟩
  · have h1 := h.resolve_left h0
    clear h
    go_enter Try.func18, Try.ntmps18
    go_wp2
    go_ret3
    exact ⟨rfl, rfl⟩

theorem f256 (c : Nat) : flo c < 256 ∧ fhi c < 256 := by unfold flo fhi lo hi; constructor <;> (repeat' split) <;> omega

def DecPost (s : List UInt8) (i : Nat) (w : World) (e : Ending) (w' : World) : Prop :=
  ((chAt s i).e = 0 → e = .returned (.tuple #[.int .i32 (chAt s i).r, .int .i64 (chAt s i).n, .nilIface])) ∧
  ((chAt s i).e ≠ 0 → e = .returned (.tuple #[.int .i32 0, .int .i64 0, spotE (chAt s i).e (chAt s i).p])) ∧ Below w.heap.size w w'
theorem decPost_bad {s : List UInt8} {i : Nat} {w w' : World} {e : Ending} {x p : Nat} (h : chAt s i = ⟨0, 0, x, p⟩) (h0 : x ≠ 0) (he : e = .returned (.tuple #[.int .i32 0, .int .i64 0, spotE x p])) (hb : Below w.heap.size w w') : DecPost s i w e w' := by
  refine ⟨fun h1 => ?_, fun _ => ?_, hb⟩ <;> rw [h] at *
  · exact absurd h1 h0
  · exact he

set_option maxRecDepth 100000 in
set_option maxHeartbeats 2000000 in
theorem decode_at (A : Option Addr) (n c B i : Nat) (s : List UInt8) (w : World) (h : RB w B A n s) (hB : B ≤ w.heap.size) (hi : i < n) (hnc : n ≤ c) (hn : n ≤ 1000000000000000000) :
    Calls Try.prog 18 #[.slice A n c, .int .i64 i] w (DecPost s i w) := by
  have hl := h.1
  obtain ⟨g, o, rfl, hg, hc⟩ := h.2 (by omega)
  subst hl
  have hcell : ∀ j, j < s.length → w.cell? ⟨g, o + j, none⟩ = some (.int .u8 (bt s j : Nat)) := fun j hj => by rw [hc j hj, bt_get s j hj]
  have hci := hcell i hi
  have HC := Lib.hid hcell
  have HR := Lib.hid h
  have hlt := bt_lt s i
  have hw4 := wd_le (bt s i)
  clear hc hcell h
  by_cases h0 : wd (bt s i) = 0
  · have HF := Lib.hid (formOf_any (bt s i) w hlt)
    unfold formV at HF
    rw [h0] at HF
    have HD := Lib.hid (chAt_none h0)
    clear h0 hw4
    generalize bt s i = c0 at *
    generalize flo c0 = l0 at *
    generalize fhi c0 = h0 at *
    go_enter Try.func18, Try.ntmps18
    go_wp2_with (go_at_call 47; refine HF.out.mono ?_; rintro e w1 ⟨rfl, hb1⟩)
    go_ret3
    exact decPost_bad HD.out (by decide) rfl (hb1.alloc hb1.size _)
  · have hf256 := f256 (bt s i)
    have HF := Lib.hid (formOf_any (bt s i) w hlt)
    unfold formV at HF
    obtain ⟨m, hm⟩ : ∃ m, m = wd (bt s i) := ⟨_, rfl⟩
    obtain ⟨l0, hl0⟩ : ∃ x, x = flo (bt s i) := ⟨_, rfl⟩
    obtain ⟨h1, hh1⟩ : ∃ x, x = fhi (bt s i) := ⟨_, rfl⟩
    rw [← hm] at h0 hw4
    rw [← hl0, ← hh1] at hf256
    rw [← hm, ← hl0, ← hh1] at HF
    have HM := Lib.hid hm
    have HL0 := Lib.hid hl0
    have HH1 := Lib.hid hh1
    clear hm hl0 hh1
    obtain ⟨hf1, hf2⟩ := hf256
    have hm1 : 1 ≤ m := by omega
    clear h0
    have hfz : ((m : Int) == 0) = false := by simp; omega
    go_enter Try.func18, Try.ntmps18
    go_wp2_with (go_at_call 47; refine HF.out.mono ?_; rintro e w1 ⟨rfl, hb1⟩)
    have hs1 := hb1.size
    have HB1 := Lib.hid hb1
    clear hb1
    go_loopw [8] (fun k wr => ∃ j : Nat, 1 ≤ j ∧ j ≤ m ∧ i + j ≤ s.length ∧ k = .int .i64 j ∧ firstBad s i m 1 = firstBad s i m j ∧ Blk wr w1.heap.size 80 #[.int .i64 m, .int .u8 l0, .int .u8 h1] ∧ Below w.heap.size w wr) (fun k _ => m - (intOf k).toNat)
    case atStart => exact ⟨1, by omega, hm1, hi, rfl, rfl, Blk.new _ _ _, HB1.out.alloc hs1 _⟩
    case round =>
      obtain ⟨j, hj1, hjm, hjs, rfl, hfb, hblk, hbel⟩ := hrel
      have HFB := Lib.hid hfb
      have HBE := Lib.hid hbel
      have HBK := Lib.hid hblk
      have cf0 := hblk.cell 0
      have cf1 := hblk.cell 1
      have cf2 := hblk.cell 2
      have hcells := fun k hk => keepc hbel (show g < w.heap.size by omega) (HC.out k hk)
      have hsr := hbel.size
      have hwl := hblk.lt
      clear hfb hbel hblk
      by_cases hjlt : j < m
      · by_cases hend : i + j = s.length
        · have hce : chAt s i = ⟨0, 0, 31, s.length⟩ := chAt_cut (n := m) HM.out.symm (by omega) (by rw [HFB.out]; exact firstBad_here hjlt (by omega)) hjlt (by omega)
          have HCE := Lib.hid hce
          have heq : ((i : Int) + j == (s.length : Int)) = true := by simp; omega
          clear hce hcells
          go_wp2
          go_ret3
          exact decPost_bad HCE.out (by decide) rfl HBE.out
        · have hlt2 : i + j < s.length := by omega
          have hcj := hcells (i + j) hlt2
          have hne : ((i : Int) + j == (s.length : Int)) = false := by simp; omega
          have hdl := bt_lt s (i + j)
          have hm2 : 2 ≤ m := by omega
          have hmb : mayB l0 h1 j (bt s (i + j)) = okb (bt s i) j (bt s (i + j)) := by
            rw [HL0.out, HH1.out]; exact mayB_ok _ _ _ (by rw [← HM.out]; exact hm2)
          by_cases hok : okb (bt s i) j (bt s (i + j)) = true
          · rw [hok] at hmb
            have hstep := firstBad_on (s := s) (i := i) (n := m) (k := j) hjlt hlt2 hok
            have HST := Lib.hid hstep
            have HMY := Lib.hid (fun W => may_any m l0 h1 j (bt s (i + j)) W hf1 hf2 hdl (by omega))
            rw [hmb] at HMY
            clear hstep hok hmb hcells
            generalize bt s (i + j) = d at *
            have q1 : IntKind.i64.wrap ((i : Int) + j) = (i : Int) + j := IntWalk.i64_in _ (by omega)
            have q2 : ((i : Int) + j).toNat = i + j := by omega
            have q3 : 0 ≤ (i : Int) + j := by omega
            have q4 : (i : Int) + j < s.length := by omega
            go_wp2
            go_region_held3 (fun w' => w'.cell? ⟨w1.heap.size, 0, none⟩ = some (.int .i64 m) ∧ w'.cell? ⟨w1.heap.size, 1, none⟩ = some (.int .u8 l0) ∧ w'.cell? ⟨w1.heap.size, 2, none⟩ = some (.int .u8 h1) ∧ w'.cell? ⟨g, o + (i + j), none⟩ = some (.int .u8 d))
              (first | (go_keep; done) | exact ⟨keepc hb2 (by simp; omega) (by go_keep), keepc hb2 (by simp; omega) (by go_keep), keepc hb2 (by simp; omega) (by go_keep), keepc hb2 (by simp; omega) (by go_keep)⟩)
              (first
                | (go_at_call 48; refine (HMY.out _).mono ?_; rintro e w2 ⟨rfl, hb2⟩))
            clear q1 q2 q3 q4
            go_wp2
            go_roundw
            case rel => exact ⟨j + 1, by omega, by omega, by omega, by go_num, by rw [HFB.out, HST.out], HBK.out.drew.below hb2 hwl, keepb HBE.out.drew hb2⟩
            case measure => simp [intOf]; omega
          · have hok' : okb (bt s i) j (bt s (i + j)) = false := by simpa using hok
            rw [hok'] at hmb
            have hce : chAt s i = ⟨0, 0, 30, i + j⟩ := chAt_byte (n := m) HM.out.symm (by omega) (by rw [HFB.out]; exact firstBad_here hjlt (fun h => hok h.2)) hjlt hlt2
            have HCE := Lib.hid hce
            have HMY := Lib.hid (fun W => may_any m l0 h1 j (bt s (i + j)) W hf1 hf2 hdl (by omega))
            rw [hmb] at HMY
            clear hce hok hok' hmb hcells
            generalize bt s (i + j) = d at *
            have q1 : IntKind.i64.wrap ((i : Int) + j) = (i : Int) + j := IntWalk.i64_in _ (by omega)
            have q2 : ((i : Int) + j).toNat = i + j := by omega
            have q3 : 0 ≤ (i : Int) + j := by omega
            have q4 : (i : Int) + j < s.length := by omega
            go_wp2
            go_region_held3 (fun w' => w'.cell? ⟨w1.heap.size, 0, none⟩ = some (.int .i64 m) ∧ w'.cell? ⟨w1.heap.size, 1, none⟩ = some (.int .u8 l0) ∧ w'.cell? ⟨w1.heap.size, 2, none⟩ = some (.int .u8 h1) ∧ w'.cell? ⟨g, o + (i + j), none⟩ = some (.int .u8 d))
              (first | (go_keep; done) | exact ⟨keepc hb2 (by simp; omega) (by go_keep), keepc hb2 (by simp; omega) (by go_keep), keepc hb2 (by simp; omega) (by go_keep), keepc hb2 (by simp; omega) (by go_keep)⟩)
              (first
                | (go_at_call 48; refine (HMY.out _).mono ?_; rintro e w2 ⟨rfl, hb2⟩))
            clear q1 q2 q3 q4
            go_wp2
            go_ret3
            exact decPost_bad HCE.out (by decide) rfl (keepb HBE.out.drew hb2)
      · obtain rfl : j = m := by omega
        have hce : chAt s i = ⟨code s i j, j, 0, 0⟩ := chAt_ok HM.out.symm (by omega) (by rw [HFB.out]; exact firstBad_end (Nat.le_refl _))
        have he0 : (chAt s i).e = 0 := by rw [hce]
        have hcut := enc_eq (s := s) (i := i) hi he0
        have hsc := (ch_scal he0).1
        have hsub := (HR.out.below (HBE.out.mono hB)).cut i j hjs
        rw [hce] at hcut hsc
        simp only at hcut hsc
        rw [hcut] at hsub
        obtain ⟨r, hr⟩ : ∃ r, r = code s i j := ⟨_, rfl⟩
        rw [← hr] at hsub hsc hce
        have HCE := Lib.hid hce
        have HSUB := Lib.hid hsub
        have HSC := Lib.hid hsc
        have hfin : ∀ w', Below w.heap.size w w' → DecPost s i w (.returned (.tuple #[.int .i32 r, .int .i64 j, .nilIface])) w' := fun w' hb => ⟨fun _ => by rw [HCE.out], fun h => by rw [HCE.out] at h; exact absurd rfl h, hb⟩
        have HFIN := Lib.hid hfin
        have hks := fun c' => str_of_RB (show RB wr.drew _ _ _ _ from hsub) c'
        obtain ⟨cap2, w2, hrun, hc2, hb2, hcap2, hlt2⟩ := runes_run r hsc wr.drew
        clear hce hcut hsc hsub hr hfin hcells he0
        have q1 : IntKind.i64.wrap ((i : Int) + j) = (i : Int) + j := IntWalk.i64_in _ (by omega)
        have q2 : ((i : Int) + j).toNat = i + j := by omega
        have q3 : 0 ≤ (i : Int) + j := by omega
        have q4 : (i : Int) + j ≤ c := by omega
        have q5 : i + j - i = j := by omega
        have q6 : i ≤ i + j := by omega
        have q7 : ¬ c = i := by omega
        have q8 : (i : Int) ≤ (i : Int) + j := by omega
        go_wp2
        have cf0' := keepc hb2 (by simp; omega) (show wr.drew.cell? ⟨w1.heap.size, 0, none⟩ = some (.int .i64 j) from cf0)
        have hb2s : wr.drew.heap.size = wr.heap.size := rfl
        rw [hb2s] at hrun hc2 hlt2
        clear cf1 cf2
        go_region
        go_wp2
        go_ret3
        exact HFIN.out _ (keepb HBE.out.drew hb2)
end Go.Proofs.Ytmdgopclcdmenaa
