/-
  Proved: 'UtfFromUnits' answers true at every slice of units: their text is the reference's, or the surrogate that is alone is told by its place; the units stay as they were; Units leads back.
  No condition beyond the given value's own and its reach in memory.
-/
import Derived.Test.YtmdgopclcdmenaaRows
import Derived.Test.YtmdgopclcdmenaaUtfRF
import Derived.Test.YtmdgopclcdmenaaUtfUA
import Derived.Test.YtmdgopclcdmenaaUtfG
import Derived.Test.YtmdgopclcdmenaaCopy
import Derived.WalkKit
import Derived.ProofKit
import Derived.OpenShut
import Derived.ShutString
import Derived.ChangeOld
import Derived.Below
import Derived.SizedLaws
import Derived.Deep.DrawnRows
namespace Go.Proofs.Ytmdgopclcdmenaa.utfFromUnits
open Go.ChangeShapes Go.WideShapes Go.ChangeAt Go.RowKit
open Go.ChangeMaps (open_string shut_string)
set_option linter.unusedVariables false
set_option linter.unusedSimpArgs false

theorem own : ownKnob Try.prog.godebug = none := by kernel_rfl
theorem laidOut : laidOutB Try.prog = true := by kernel_rfl

/-- What is known of a slice of integers that came in. -/
def IsRow (k : IntKind) (w : World) (a : Option Addr) (len cap : Nat) (zs : List Int) : Prop :=
  (a = none ∧ len = 0 ∧ cap = 0 ∧ zs = []) ∨
  ∃ x, a = some x ∧ len ≤ cap ∧ cap ≤ maxLen ∧ zs.length = cap ∧ (∀ i, i < zs.length → w.cell? (x.add i) = some (.int k (zs.getD i 0))) ∧ ∀ n ∈ zs, (Lit.int k n).wf = true
theorem rv_of_row {w : World} {A : Option Addr} {len cap : Nat} {zs : List Int} (h : IsRow .u16 w A len cap zs) :
    ∃ U : List Nat, U.length = len ∧ (∀ x ∈ U, x < 65536) ∧ RV w w.heap.size A len (U.map uv_) ∧ len ≤ cap := by
  rcases h with ⟨rfl, rfl, rfl, rfl⟩ | ⟨x, rfl, hl, hm, hz, hc, hw⟩
  · exact ⟨[], rfl, fun x hx => (List.not_mem_nil hx).elim, RV.nil _ _ _, Nat.le_refl _⟩
  · have hwf : ∀ n ∈ zs, 0 ≤ n ∧ n < 65536 := by
      intro n hn
      have := hw n hn
      simp [Lit.wf, IntKind.min, IntKind.max, IntKind.signed, IntKind.bits] at this
      omega
    refine ⟨(zs.take len).map Int.toNat, by simp; omega, ?_, ⟨by simp; omega, fun hn => ?_⟩, hl⟩
    · intro x hx
      obtain ⟨y, hy, rfl⟩ := List.mem_map.1 hx
      have := hwf y (List.mem_of_mem_take hy)
      omega
    · obtain ⟨b, off, spot⟩ := x
      have h0 := hc 0 (by omega)
      have hs : spot = none := by simpa [Addr.add] using World.cell?_spot h0
      subst hs
      have hlt : b < w.heap.size := by have := World.block_lt_of_cell? w _ h0; simpa [Addr.add] using this
      refine ⟨b, off, rfl, hlt, fun j hj => ?_⟩
      have hj' : j < len := by simp at hj; omega
      have h1 := hc j (by omega)
      have hadd : (⟨b, off, none⟩ : Addr).add j = ⟨b, off + j, none⟩ := by unfold Addr.add; split <;> simp_all
      rw [hadd] at h1
      rw [h1]
      have hg : zs.getD j 0 = zs[j]'(by omega) := by simp [List.getD, show j < zs.length by omega]
      have hb := hwf (zs[j]'(by omega)) (List.getElem_mem _)
      rw [hg]
      simp only [List.getElem_map, List.getElem_take]
      show _ = some (Value.int .u16 _)
      congr 2
      omega

theorem given_cells (U : List Nat) (n : Nat) (h : U.length = n) : (((U.map uv_ ++ (zs (.int .u16 0) (n + 2)).drop n).toArray.setIfInBounds n (.int .u16 57005)).setIfInBounds (n + 1) (.int .u16 48879)) = ((U ++ [57005, 48879]).map uv_).toArray := by
  subst h
  have e : (zs (.int .u16 0) (U.length + 2)).drop U.length = [.int .u16 0, .int .u16 0] := by
    unfold zs
    rw [List.drop_replicate, show U.length + 2 - U.length = 2 by omega]; rfl
  rw [e]
  simp
theorem given_cell (w : World) (g : Nat) (U : List Nat) (n : Nat) (h : U.length = n) (hb : Blk w g 74 (U.map uv_ ++ (zs (.int .u16 0) (n + 2)).drop n).toArray) :
    w.cell? ⟨g, n, none⟩ = some (.int .u16 0) ∧ w.cell? ⟨g, n + 1, none⟩ = some (.int .u16 0) := by
  subst h
  have e : (zs (.int .u16 0) (U.length + 2)).drop U.length = [.int .u16 0, .int .u16 0] := by
    unfold zs
    rw [List.drop_replicate, show U.length + 2 - U.length = 2 by omega]; rfl
  rw [e] at hb
  rw [hb.cell, hb.cell]
  simp [List.getElem_append_right]

/-- copy of units to the head of a block that is known whole. -/
theorem wpList_copyu {ops : Array Oper} {rest : List Oper} {o : Oper} {a : Act} {Q : Exit → Act → World → Prop} {w : World} (hgd : o.guard = none) (d s : Operand)
    (ho : o.op = .call { callee := .builtin .copy, args := #[d, s], argTypes := #[66, 66] })
    (g n dCap sCap : Nat) (A : Option Addr) (hd : a.eval d = .slice (some ⟨g, 0, none⟩) n dCap) (hs : a.eval s = .slice A n sCap) (B : Nat) (U : List Nat) (hR : RV w B A n (U.map uv_))
    (cur : List Value) (hg : Blk w g 74 cur.toArray) (hlen : n ≤ cur.length) (B0 : Nat) (w0 : World) (hb : Below B0 w0 w) (hBg : B0 ≤ g)
    (h : ∀ w', Hid (Blk w' g 74 (U.map uv_ ++ cur.drop n).toArray) → Below B0 w0 w' → wpList Try.prog ops Q rest (a.put o.dst (goInt n)) w') : wpList Try.prog ops Q (o :: rest) a w := by
  refine wpList_copyr ei_u16 hgd d s ho g 0 n n dCap sCap A hd hs B _ hR (Nat.le_refl _) cur hg (by omega) (fun u hu => by obtain ⟨x, _, rfl⟩ := List.mem_map.1 hu; rfl) B0 w0 hb hBg ?_
  intro w' h1 h2
  simp only [List.take_zero, List.nil_append, Nat.zero_add] at h1
  exact h w' h1 h2

/-- What is told of units: their text, or the one that is alone. -/
def Told (U : List Nat) (t : List UInt8) (v : Value) : Prop :=
  (v = .nilIface ∧ fuR U = .tuple #[.string ⟨t.toArray⟩, .int .i64 (-1)] ∧ right t = true ∧ unitsF t 0 = U ∧ t.length ≤ 4 * U.length) ∨
  (∃ i : Nat, v = spotE 32 i ∧ t = [] ∧ fuR U = .tuple #[.string ⟨#[]⟩, .int .i64 (i : Int)])
theorem told (U : List Nat) (h16 : ∀ x ∈ U, x < 65536) : ∃ t v, fuV U = .tuple #[.string ⟨t.toArray⟩, v] ∧ Told U t v := by
  cases hf : (fuL U).2 with
  | none =>
    have he : fuL U = ((fuL U).1, none) := Prod.ext rfl hf
    obtain ⟨h1, h2⟩ := fuL_back U.length U [] (Nat.le_refl _) h16 hf
    simp only [List.nil_append, List.length_nil] at h1 h2
    refine ⟨(fuL U).1, .nilIface, fuV_none he, .inl ⟨rfl, fuR_none he, ?_, h2, fuL_len U.length U (Nat.le_refl _)⟩⟩
    unfold right wrong
    rw [h1]
    rfl
  | some i => exact ⟨[], spotE 32 i, fuV_some hf, .inr ⟨i, rfl, rfl, fuR_some hf⟩⟩

set_option maxRecDepth 100000 in
set_option maxHeartbeats 4000000 in
theorem walk_any (A : Option Addr) (cap : Nat) (U : List Nat) (w : World) (hr : RV w w.heap.size A U.length (U.map uv_)) (h16 : ∀ x ∈ U, x < 65536) (hc : U.length ≤ cap) (s0 : cap ≤ 140737488351232) :
    Calls Try.prog 13 #[.slice A U.length cap] w fun e w' => e = .returned (.bool true) ∧ Below w.heap.size w w' := by
  have HR := Lib.hid hr
  have H16 := Lib.hid h16
  obtain ⟨t, v, hfv, htold⟩ := told U h16
  have HFV := Lib.hid hfv
  have HTOLD := Lib.hid htold
  clear hr h16 hfv htold
  have HBY := Lib.hid (fun W => beyond_any (2 * U.length) W (by omega))
  have e1 : ((2 * U.length : Nat) : Int) = 2 * (U.length : Int) := by omega
  rw [e1] at HBY
  clear e1
  have hlen : (U.length : Int) ≤ 140737488351232 := by omega
  by_cases hbig : 2147483647 < 2 * U.length
  · rw [show decide (2147483647 < 2 * U.length) = true by simpa using hbig] at HBY
    clear hbig
    go_enter Try.func13, Try.ntmps13
    go_wp2_with fail
    refine (HBY.out _).mono ?_
    rintro e w' ⟨rfl, rfl⟩
    go_wp2_with fail
    go_ret
    exact ⟨rfl, Below.refl _ _⟩
  rw [show decide (2147483647 < 2 * U.length) = false by simpa using hbig] at HBY
  have hn : U.length ≤ 1073741823 := by omega
  have hn' : (U.length : Int) ≤ 1073741823 := by omega
  clear hbig s0 hlen
  have hmk := fun W => run_mk ei_u16 .i64 .i64 U.length (U.length + 2) (by omega) (by omega) (by omega) W
  have e2 : ((U.length + 2 : Nat) : Int) = (U.length : Int) + 2 := by omega
  rw [e2] at hmk
  clear e2
  go_enter Try.func13, Try.ntmps13
  go_wp2_with fail
  refine (HBY.out _).mono ?_
  rintro e w' ⟨rfl, rfl⟩
  go_wp2_with ((with_reducible refine wpList_copyu (o := ⟨some 23, _, _, _, _, _⟩) rfl (.tmp 21) (.tmp 22) rfl w.heap.size U.length _ _ A rfl rfl w.heap.size U (HR.out.below ((Below.refl _ _).alloc (Nat.le_refl _) _)) (zs (.int .u16 0) (U.length + 2)) (Blk.new w _ _) (by rw [zs_length]; omega) w.heap.size w ((Below.refl _ _).alloc (Nat.le_refl _) _) (Nat.le_refl _) ?_); intro w1 hb1 hbel1; obtain ⟨cn, cn1⟩ := given_cell w1 w.heap.size U U.length rfl hb1.out; have fn := hb1.out.frozen U.length; have fn1 := hb1.out.frozen (U.length + 1); have hs1 := hbel1.size)
  have hblk := ((hb1.out.set1 U.length (.int .u16 57005)).set1 (U.length + 1) (.int .u16 48879))
  rw [given_cells U U.length rfl] at hblk
  have hbel2 : Below w.heap.size w _ := (hbel1.setCell (p := ⟨w.heap.size, U.length, none⟩) (Nat.le_refl _) (.int .u16 57005)).setCell (p := ⟨w.heap.size, U.length + 1, none⟩) (Nat.le_refl _) (.int .u16 48879)
  have HBLK := Lib.hid hblk
  have HBEL := Lib.hid hbel2
  have hlt2 := hblk.lt
  have hrd : RV _ _ (some ⟨w.heap.size, 0, none⟩) U.length (U.map uv_) := hblk.read 0 (U.map uv_) U.length (by simp) (fun j hj => by simp at hj ⊢; rw [List.getElem?_append_left (by simpa using hj)]; simp [hj])
  have HRD := Lib.hid (hrd.mono (show w.heap.size + 1 ≤ _ from hlt2))
  clear hblk hbel2 cn cn1 fn fn1 hs1 hrd hb1 hbel1 hmk
  generalize (w1.setCell ⟨w.heap.size, U.length, none⟩ (.int .u16 57005)).setCell ⟨w.heap.size, U.length + 1, none⟩ (.int .u16 48879) = W2 at *
  refine (fromUnits _ _ U W2 HRD.out H16.out (by omega) (by omega)).mono ?_
  rw [HFV.out]
  rintro e w3 ⟨rfl, b3⟩
  have B3 := Lib.hid (keepb HBEL.out b3)
  have HBLK3 := Lib.hid (HBLK.out.below b3 HBLK.out.lt)
  have HRD3 := Lib.hid (HRD.out.below b3)
  have S3 := b3.size
  clear b3
  have hlow : RV w3 w3.heap.size A U.length (U.map uv_) := (HR.out.below B3.out).mono B3.out.size
  have HL3 := Lib.hid hlow
  clear hlow
  go_wp2_with fail
  refine (sameUnits _ _ _ _ U U w3 (HRD3.out.mono S3) HL3.out (by omega) (by omega)).mono ?_
  rw [show decide (U = U) = true from decide_eq_true rfl]
  rintro e w4 ⟨rfl, b4⟩
  have B4 := Lib.hid (keepb B3.out b4)
  have HL4 := Lib.hid ((HL3.out.below b4).mono b4.size)
  have S4 := b4.size
  have hblk4 := HBLK3.out.below b4 (by omega)
  have ca := hblk4.cell U.length
  have cb := hblk4.cell (U.length + 1)
  simp at ca cb
  clear b4 hblk4
  rcases HTOLD.out with ⟨rfl, hfr, hrt, hun, htl⟩ | ⟨i, rfl, rfl, hfr⟩
  · have HFR := Lib.hid hfr
    have HUY := Lib.hid (fun W => units_yes t W (by omega) hrt)
    unfold UnitsOwn at HUY
    have HUN := Lib.hid hun
    have htt : (t != t) = false := by simp
    have htt' : (t == t) = true := by simp
    clear hfr hrt hun htl
    go_wp2_with fail
    refine (rfromUnits _ _ U w4 HL4.out H16.out (by omega) (by omega)).mono ?_
    rw [HFR.out]
    rintro e w5 ⟨rfl, b5⟩
    have B5 := Lib.hid (keepb B4.out b5)
    have HL5 := Lib.hid ((HL4.out.below b5).mono b5.size)
    clear b5
    go_wp2_with fail
    refine (HUY.out _).mono ?_
    rintro e w6 ⟨A6, c6, rfl, hu6, b6⟩
    rw [HUN.out] at hu6
    rw [HUN.out]
    have HU6 := Lib.hid hu6
    have B6 := Lib.hid (keepb B5.out b6)
    have HL6 := Lib.hid ((HL5.out.below b6).mono b6.size)
    clear hu6 b6
    go_wp2_with fail
    refine (sameUnits _ _ _ _ U U w6 HL6.out HU6.out.rv (by omega) (by omega)).mono ?_
    rw [show decide (U = U) = true from decide_eq_true rfl]
    rintro e w7 ⟨rfl, b7⟩
    have B7 := Lib.hid (keepb B6.out b7)
    clear b7
    go_wp2_with fail
    go_ret
    exact ⟨rfl, B7.out⟩
  · have HFR := Lib.hid hfr
    have HS := Lib.hid (fun W => spot_yes 32 (i : Int) W)
    clear hfr
    go_wp2_with fail
    refine (rfromUnits _ _ U w4 HL4.out H16.out (by omega) (by omega)).mono ?_
    rw [HFR.out]
    rintro e w5 ⟨rfl, b5⟩
    have B5 := Lib.hid (keepb B4.out b5)
    clear b5
    have hi0 : (0 : Int) ≤ i := by omega
    go_wp2_with fail
    refine (HS.out _).mono ?_
    rintro e w6 ⟨rfl, b6⟩
    have B6 := Lib.hid (keepb B5.out b6)
    clear b6
    go_wp2_with fail
    go_ret
    exact ⟨rfl, B6.out⟩

set_option maxRecDepth 100000 in
theorem walk (a0 : Option Addr) (len0 cap0 : Nat) (z0 : List Int) (w : World) (w0 : IsRow .u16 w a0 len0 cap0 z0) (s0 : cap0 ≤ 140737488351232) :
    Calls Try.prog 13 #[.slice a0 len0 cap0] w fun e w' => e = .returned (.bool true) ∧ Below w.heap.size w w' := by
  obtain ⟨U, rfl, h16, hr, hlc⟩ := rv_of_row w0
  exact walk_any a0 cap0 U w hr h16 hlc s0

set_option maxRecDepth 100000 in
theorem lifted (os : Os) (started : os.Started) (H : Type) (enc : TypeId × Value → H) :
    ReturnsInHanded {} Try.checked os 13 .any (Rows.utfFromUnitsSpec.pre6 enc Try.prog Try.f13 Rows.utfFromUnitsRow.domain false) (Rows.utfFromUnitsSpec.post enc Try.prog Try.f13 false true false false) := by
  refine returnsInHanded_of_change_sized (C := Try.checked) own started (by kernel_rfl) Try.func13
    (ChangeSpec.witness6 (enc := enc) (C := Try.checked) false ⟨#[], #[.slice none 0 0], []⟩ 8 (by kernel_rfl) (by kernel_rfl) (by kernel_rfl) (by kernel_rfl)) ?_
  intro W base args ds gs before hval0 hW hcnd hsz0 _
  have hsz : (DataW.weightsEach Try.prog (Try.f13.params.toList ++ Rows.utfFromUnitsSpec.plain.varTypes Try.prog) (ds ++ gs)).all (· ≤ reachBytes) = true := hsz0
  clear hsz0
  have hval : ∀ (j : Nat) t v, Try.f13.params[j]? = some t → args[j]? = some v → Value.okWide Try.prog W .any base t v := hval0
  have hW' := hW
  obtain ⟨p, q, hA0, hV, rfl, hfz, hnd⟩ := hW
  have hA : DataW.TrodAll enc Try.prog W 0 (fun _ => true) true Try.f13.params.toList args.toList ds p := hA0
  rw [Try.params13] at hA hval hsz
  obtain ⟨v0, vs0, d0, ds0, p0, q0, hargs, rfl, rfl, h0, r0⟩ := trodAll_cons hA
  obtain ⟨rfl, rfl, rfl⟩ := trodAll_nil r0
  obtain rfl : args = #[v0] := by cases args; simp_all
  obtain ⟨rfl, rfl⟩ := trodVars_none hV
  obtain ⟨a0, len0, cap0, rfl⟩ := okWide_slice Try.underlying66 (hval 0 66 v0 rfl rfl)
  have k0 := h0
  have lt0 : ∀ x ∈ p0, x.block < W.heap.size := by obtain ⟨m, hm⟩ := k0; exact DataW.trod_lt m _ _ _ hm
  obtain ⟨z0, w0, s0⟩ : ∃ zs, IsRow .u16 W a0 len0 cap0 zs ∧ cap0 ≤ 140737488351232 := by
    obtain ⟨fuel, hf⟩ := h0
    rcases open_ints Try.underlying66 Try.underlying74 (by kernel_rfl) hf with ⟨hcs, _⟩ | ⟨x, l, c, zs, hcs, _, hl, hm, hz, hdx, hcell, hwz⟩
    · simp [Value.cells] at hcs
      obtain ⟨rfl, rfl, rfl⟩ := hcs
      exact ⟨[], .inl ⟨rfl, rfl, rfl, rfl⟩, by omega⟩
    · simp [Value.cells] at hcs
      obtain ⟨rfl, rfl, rfl⟩ := hcs
      have hz' : zs.length = cap0 := by simpa using hz
      injection hdx with hdx1 hdx2
      have hs := sized_slice hsz (j := 0) (t := 66) (e := 74) (elems := lits .u16 (zs.take len0)) (spare := lits .u16 (zs.drop len0)) rfl (by rw [← hdx1]; rfl) Try.underlying66
      rw [(by kernel_rfl : Try.prog.bytesOf 74 = 2)] at hs
      simp only [lits, List.length_map, List.length_take, List.length_drop, reachBytes, hz'] at hs
      have hs : cap0 ≤ 140737488351232 := by omega
      exact ⟨zs, .inr ⟨_, rfl, hl, hm, hz', hcell, hwz⟩, by simpa [lits, hz', reachBytes] using hs⟩
  clear hA0 hval0
  refine (walk a0 len0 cap0 z0 W w0 s0).mono fun e W' ⟨he, bel⟩ => ?_
  subst he
  exact ⟨_, rfl, _, _, _, [], _, [], hW', trodAll_mk1 (shut_bool Try.underlying4 _), (trodAll_cons_mk (Below.trod laidOut (by kernel_rfl) (of_decide_eq_true (by kernel_rfl)) k0 bel lt0) trodAll_mk0), rfl, bel.frame _, fun h => by cases h⟩

theorem over : Rows.utfFromUnitsRow.holds Try.pinned (OpenSpec.ofChange Rows.utfFromUnitsSpec) :=
  OpenClaim.holds_of_wide 13 Try.f13 rfl rfl rfl rfl rfl rfl rfl ⟨rfl, rfl, rfl, rfl, rfl⟩ rfl rfl rfl rfl rfl (by kernel_rfl) Try.func13 (by kernel_rfl)
    (of_decide_eq_true (by kernel_rfl)) (by unfold Func.isWrapper; first | (rw [if_pos (by decide +kernel)]; kernel_rfl) | (rw [if_neg (by decide +kernel)]; exact ⟨rfl, rfl⟩))
    (fun os started H enc _ => lifted os started H enc)

theorem proved : Rows.UtfFromUnitsSaid := over
#print axioms proved
end Go.Proofs.Ytmdgopclcdmenaa.utfFromUnits
