/- Digest and ToDigest. -/
import Derived.Test.YtdlplmflimleaaaBaseG
import Derived.Test.YtdlplmflimleaaaBaseR
import Derived.Test.YtdlplmflimleaaaWhole
namespace Go.Proofs.Ytdlplmflimleaaa
open Go.RowKit
set_option linter.unusedSimpArgs false
set_option linter.unusedVariables false

set_option maxRecDepth 100000 in
theorem digest_any (bs : List UInt8) (w : World) (h : bs.length = 32) :
    Calls Try.prog 33 #[.agg (bs.map bv).toArray] w fun e w' => e = .returned (.string ⟨(lets 1 4 bs).toArray⟩) ∧ Below w.heap.size w w' := by
  have hb := Blk.new w 62 (bs.map bv).toArray
  have HW := Lib.hid (fun W => write_s 1 4 bs W rfl rfl (by omega))
  have BB := Lib.hid ((Below.refl w.heap.size w).alloc (Nat.le_refl _) (.cells (bs.map bv).toArray 62))
  have hrb : RB (w.alloc (.cells (bs.map bv).toArray 62)) (w.heap.size + 1) (some ⟨w.heap.size, 0, none⟩) 32 bs := by
    refine ⟨h, fun _ => ⟨_, _, rfl, by omega, fun j hj => ?_⟩⟩
    rw [Nat.zero_add, hb.cell j]
    simp [hj]
  have hco := str_of_RB hrb 32
  clear hrb hb
  go_enter Try.func33, Try.ntmps33
  go_wp2_with fail
  refine (HW.out _).mono ?_
  rintro e w1 ⟨rfl, hb⟩
  have BB := Lib.hid (keepb BB.out hb)
  clear hb
  go_wp2_with fail
  go_ret
  exact ⟨rfl, BB.out⟩
def zeros32 : Array Value := #[.int .u8 0, .int .u8 0, .int .u8 0, .int .u8 0, .int .u8 0, .int .u8 0, .int .u8 0, .int .u8 0, .int .u8 0, .int .u8 0, .int .u8 0, .int .u8 0, .int .u8 0, .int .u8 0, .int .u8 0, .int .u8 0, .int .u8 0, .int .u8 0, .int .u8 0, .int .u8 0, .int .u8 0, .int .u8 0, .int .u8 0, .int .u8 0, .int .u8 0, .int .u8 0, .int .u8 0, .int .u8 0, .int .u8 0, .int .u8 0, .int .u8 0, .int .u8 0]
/-- What is behind ToDigest. -/
def DigP (s : List UInt8) (w : World) (e : Ending) (w' : World) : Prop :=
  Below w.heap.size w w' ∧
  ((rd 1 4 s).2.1 ≠ 0 → e = .returned (.tuple #[.agg zeros32, spotE ((rd 1 4 s).2.1 : Nat) ((rd 1 4 s).2.2 : Nat)])) ∧
  ((rd 1 4 s).2.1 = 0 → (rd 1 4 s).1.length ≠ 32 → e = .returned (.tuple #[.agg zeros32, eno 2])) ∧
  ((rd 1 4 s).2.1 = 0 → (rd 1 4 s).1.length = 32 → e = .returned (.tuple #[.agg ((rd 1 4 s).1.map bv).toArray, .nilIface]))
theorem setRow_blk {w : World} {g : Nat} {t : TypeId} {c c' : Array Value} (h : w.heap[g]? = some (.cells c t)) : (w.setRow g c').heap[g]? = some (.cells c' t) := by
  simp [World.setRow, Array.getElem?_modify, h]
theorem info62 : (Try.prog.info? 62).map (·.size) = some 32 := by kernel_rfl
theorem zeros_one : zeros32.all (·.oneCell') = true := by unfold zeros32; simp [Value.oneCell']
theorem below_row {B g : Nat} {w0 w : World} {c : Array Value} (hg : B ≤ g) (h : Below B w0 w) : Below B w0 (w.setRow g c) :=
  h.trans ⟨rfl, rfl, rfl, by simp [World.setRow], fun k hk => by
    simp only [World.setRow, Array.getElem?_modify]
    rw [if_neg (by omega)]⟩
theorem array_at (g cap : Nat) (W : World) : (Instr.arrayAt 62 (.slice (some ⟨g, 0, none⟩) 32 cap)).run Try.prog W = .ok (.pointer (some ⟨g, 0, none⟩)) W := by kernel_rfl
theorem load_at (W : World) (g : Nat) (C : Array Value) (h : (loadCellsFrom ⟨g, 0, none⟩ 0 32 #[]).run Try.prog W = .ok C W) : (Instr.loadAt 62 (.pointer (some ⟨g, 0, none⟩))).run Try.prog W = .ok (.agg C) W := by
  simp only [Instr.loadAt, Instr.sureAddr, Sem.run_bind, Sem.run_pure, Result.andThen, loadVar]
  have h1 : (isAgg 62).run Try.prog W = .ok true W := by kernel_rfl
  have h2 : (sizeOf 62).run Try.prog W = .ok 32 W := by kernel_rfl
  simp [h1, h2, loadCells, h, Sem.run_bind, Result.andThen]
attribute [-go_sem] loadCellsFrom
set_option maxRecDepth 100000 in
set_option maxHeartbeats 4000000 in
theorem todigest_any (s : List UInt8) (w : World) (hn : s.length ≤ 1000000000) :
    Calls Try.prog 34 #[.string ⟨s.toArray⟩] w (DigP s w) := by
  have HR := Lib.hid (fun W => read_k 1 4 s W rfl (.inl rfl) hn)
  have HX : Hid (∀ e w', (Below w.heap.size w w' ∧
  ((rd 1 4 s).2.1 ≠ 0 → e = .returned (.tuple #[.agg zeros32, spotE ((rd 1 4 s).2.1 : Nat) ((rd 1 4 s).2.2 : Nat)])) ∧
  ((rd 1 4 s).2.1 = 0 → (rd 1 4 s).1.length ≠ 32 → e = .returned (.tuple #[.agg zeros32, eno 2])) ∧
  ((rd 1 4 s).2.1 = 0 → (rd 1 4 s).1.length = 32 → e = .returned (.tuple #[.agg ((rd 1 4 s).1.map bv).toArray, .nilIface]))) → DigP s w e w') := Lib.hid (fun e w' h => h)
  generalize DigP s w = DP at *
  have hone' := zeros_one
  obtain ⟨Zs, hZ⟩ : ∃ Zs : Array Value, zeros32 = Zs := ⟨_, rfl⟩
  have hZs : Zs.size = 32 := by rw [← hZ]; rfl
  rw [hZ] at hone'
  have HONE := Lib.hid hone'
  have hlit : (#[.int .u8 0, .int .u8 0, .int .u8 0, .int .u8 0, .int .u8 0, .int .u8 0, .int .u8 0, .int .u8 0, .int .u8 0, .int .u8 0, .int .u8 0, .int .u8 0, .int .u8 0, .int .u8 0, .int .u8 0, .int .u8 0, .int .u8 0, .int .u8 0, .int .u8 0, .int .u8 0, .int .u8 0, .int .u8 0, .int .u8 0, .int .u8 0, .int .u8 0, .int .u8 0, .int .u8 0, .int .u8 0, .int .u8 0, .int .u8 0, .int .u8 0, .int .u8 0] : Array Value) = Zs := hZ
  rw [hZ] at HX
  clear hone'
  go_enter Try.func34, Try.ntmps34
  go_wp2_with fail
  refine (HR.out _).mono ?_
  rintro e w1 ⟨v, er, rfl, hb1, g1, g2⟩
  have hb00 : Blk (w.alloc (.cells Zs 62)) w.heap.size 62 Zs := Blk.new w 62 Zs
  have hb0 : Blk w1 w.heap.size 62 Zs := hb00.below hb1 hb00.lt
  have hBB : Below w.heap.size w w1 := keepb ((Below.refl _ w).alloc (Nat.le_refl _) (.cells Zs 62)) hb1
  have HB := Lib.hid (fun c => below_row (c := c) (Nat.le_refl w.heap.size) hBB)
  have ST : Hid (∀ c : Array Value, c.size = 32 → c.all (·.oneCell') = true → (storeCells ⟨w.heap.size, 0, none⟩ c.toList 0).run Try.prog w1 = .ok () (w1.setRow w.heap.size c)) := Lib.hid (fun c h1 h2 => store_row (P := Try.prog) w1 w.heap.size 62 Zs c hb0 (by rw [h1]; exact info62) (by omega) h2)
  have LD : Hid (∀ c : Array Value, c.size = 32 → (loadCellsFrom ⟨w.heap.size, 0, none⟩ 0 32 #[]).run Try.prog (w1.setRow w.heap.size c) = .ok c (w1.setRow w.heap.size c)) := Lib.hid (fun c h1 => load_row (w1.setRow w.heap.size c) w.heap.size c 32 h1 (fun j v hv => by
    have hb2 : Blk (w1.setRow w.heap.size c) w.heap.size 62 c := setRow_blk hb0
    rw [hb2.cell j]; exact hv))
  clear hb0 hb00 hBB
  by_cases h : (rd 1 4 s).2.1 = 0
  · obtain ⟨rfl, hown⟩ := g1 h
    have HH := Lib.hid h
    clear g1 g2 h
    obtain ⟨bs, hbs⟩ : ∃ bs, (rd 1 4 s).1 = bs := ⟨_, rfl⟩
    rw [hbs] at hown HX
    clear hbs
    obtain ⟨len, hlen⟩ : ∃ len, bs.length = len := ⟨_, rfl⟩
    rw [hlen] at hown
    by_cases h32 : len = 32
    · subst h32
      rcases hown.2 with ⟨hv, hn0⟩ | ⟨g, cap, rest, hv, hbg, hblk, hcap, hcm⟩
      · omega
      subst hv
      obtain ⟨C, hC⟩ : ∃ C : Array Value, (bs.map bv).toArray = C := ⟨_, rfl⟩
      have hCs : C.size = 32 := by rw [← hC]; simp [hlen]
      have hCo : C.all (·.oneCell') = true := by rw [← hC]; simp [Array.all_eq_true]; intro i hi; rfl
      have ha := array_at g cap
      have hl1 := load_row (P := Try.prog) w1 g C 32 hCs (fun j v hv => by
        rw [← hC] at hv
        have hj : j < bs.length := by
          rcases Nat.lt_or_ge j bs.length with h | h
          · exact h
          · rw [List.getElem?_toArray, List.getElem?_eq_none (by simpa using h)] at hv; cases hv
        rw [hblk.cell j, List.getElem?_toArray, List.map_append, List.getElem?_append_left (by simpa using hj)]
        rw [List.getElem?_toArray] at hv
        exact hv)
      have hla := load_at w1 g C hl1
      have hst := ST.out C hCs hCo
      have hld := LD.out C hCs
      rw [hC] at HX
      clear hown hblk
      go_wp2_with fail
      refine bodyPost_ret (v := .tuple #[.agg C, .nilIface]) (by simp [results, Try.results34, go_sem, hld]) rfl (HX.out _ _ ⟨HB.out C, fun h => absurd HH.out h, fun _ h => absurd hlen h, fun _ _ => rfl⟩)
    · obtain ⟨A, c, rfl, _⟩ := own_shape hown.own
      have t1 : ((len : Int) != 32) = true := by rw [bne_iff_ne]; omega
      have t1' : (len != 32) = true := by rw [bne_iff_ne]; omega
      have H32 := Lib.hid h32
      have HLN := Lib.hid hlen
      clear hown hlen h32
      have hst := ST.out Zs hZs HONE.out
      have hld := LD.out Zs hZs
      go_wp2_with fail
      refine bodyPost_ret (v := .tuple #[.agg Zs, eno 2]) (by simp [results, Try.results34, go_sem, hld]) rfl (HX.out _ _ ⟨HB.out Zs, fun h => absurd HH.out h, fun _ _ => rfl, fun _ h => absurd (HLN.out.symm.trans h) H32.out⟩)
  · obtain ⟨rfl, rfl⟩ := g2 h
    have HH := Lib.hid h
    clear g1 g2 h
    have hst := ST.out Zs hZs HONE.out
    have hld := LD.out Zs hZs
    go_wp2_with fail
    refine bodyPost_ret (v := .tuple #[.agg Zs, spotE ((rd 1 4 s).2.1 : Nat) ((rd 1 4 s).2.2 : Nat)]) (by simp [results, Try.results34, go_sem, hld]) rfl (HX.out _ _ ⟨HB.out Zs, fun _ => rfl, fun h => absurd h HH.out, fun h => absurd h HH.out⟩)
end Go.Proofs.Ytdlplmflimleaaa
