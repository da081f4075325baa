/- LexRows: the walk. -/
import Derived.Test.YtgmholdkdppbmaaGreatDoorLexRAH
import Derived.Test.YtgmholdkdppbmaaGreatDoorLexRAL
import Derived.Test.YtgmholdkdppbmaaGreatDoorRows
namespace Go.Proofs.YtgmholdkdppbmaaGreatDoor.lexRows
open Go.RowKit Go.Proofs.YtgmholdkdppbmaaGreatDoor.Lx
set_option linter.unusedSimpArgs false
set_option linter.unusedVariables false
/-- What is known of a slice of integers that came in. -/
def IsRow (k : IntKind) (w : World) (a : Option Addr) (len cap : Nat) (zs : List Int) : Prop :=
  (a = none ∧ len = 0 ∧ cap = 0 ∧ zs = []) ∨
  ∃ x, a = some x ∧ len ≤ cap ∧ cap ≤ maxLen ∧ zs.length = cap ∧ (∀ i, i < zs.length → w.cell? (x.add i) = some (.int k (zs.getD i 0))) ∧ ∀ n ∈ zs, (Lit.int k n).wf = true
set_option maxRecDepth 100000 in
set_option maxHeartbeats 4000000 in
theorem walk (a0 : Option Addr) (len0 cap0 : Nat) (z0 : List Int) (w : World) (w0 : IsRow .u8 w a0 len0 cap0 z0) (s0 : cap0 ≤ 140737488351232) :
    Calls Tryz.prog 7 #[.slice a0 len0 cap0] w fun e w' => e = .returned (.bool true) ∧ Below w.heap.size w w' := by
  obtain ⟨hRB, hlc, hcm⟩ := RB.of_row w0
  clear w0 hcm
  generalize hbs : ((z0.take len0).map fun z => UInt8.ofNat z.toNat) = bs at hRB
  clear hbs
  have hbl := hRB.1
  subst hbl
  have HR := Lib.hid hRB
  clear hRB
  have HB := Lib.hid (fun W => beyond_any bs.length W (by omega))
  by_cases hbig : 2147483647 < bs.length
  · rw [show decide (2147483647 < bs.length) = true by simpa using hbig] at HB
    clear hbig
    go_enter Tryz.func7, Tryz.ntmps7
    go_wp2_with fail
    refine (HB.out _).mono ?_
    rintro e w' ⟨rfl, rfl⟩
    go_wp2_with fail
    go_ret
    exact ⟨rfl, Below.refl _ _⟩
  rw [show decide (2147483647 < bs.length) = false by simpa using hbig] at HB
  have hn : bs.length ≤ 2147483647 := by omega
  clear hbig
  have HRD := Lib.hid (fun W => rRead_any bs true W (by omega))
  have k0 := str_of_RB HR.out cap0
  obtain ⟨o, ho⟩ : ∃ o, refO bs true = o := ⟨_, rfl⟩
  have hol := refO_len bs true
  have hot := refO_term bs true
  rw [ho] at HRD hol hot
  have HO := Lib.hid ho
  have HOL := Lib.hid hol
  have HOT := Lib.hid hot
  clear ho hol hot
  unfold OtE at HRD
  go_enter Tryz.func7, Tryz.ntmps7
  go_wp2_with fail
  refine (HB.out _).mono ?_
  rintro e w' ⟨rfl, rfl⟩
  go_wp2_with fail
  refine (HRD.out _).mono ?_
  rintro e w1 ⟨v, rfl, hown, b1⟩
  clear k0
  obtain ⟨A, c, rfl, _⟩ := own_shape9 hown
  have HOWN := Lib.hid (hown.alloc (.cells #[.slice A o.toks.length c, .int .i64 (o.no : Nat), .int .i64 (o.pos : Nat), .int .i64 (o.found : Nat), .int .i64 (o.held : Nat)] 32))
  have HBK := Lib.hid (Blk.new w1 32 #[.slice A o.toks.length c, .int .i64 (o.no : Nat), .int .i64 (o.pos : Nat), .int .i64 (o.found : Nat), .int .i64 (o.held : Nat)])
  have B1 := Lib.hid (b1.alloc b1.size (.cells #[.slice A o.toks.length c, .int .i64 (o.no : Nat), .int .i64 (o.pos : Nat), .int .i64 (o.found : Nat), .int .i64 (o.held : Nat)] 32))
  have hs1 := b1.size
  clear hown b1
  go_wp2_with fail
  generalize w1.alloc (.cells #[.slice A o.toks.length c, .int .i64 (o.no : Nat), .int .i64 (o.pos : Nat), .int .i64 (o.found : Nat), .int .i64 (o.held : Nat)] 32) = W1 at *
  have hsW := B1.out.size
  refine (roomy_any a0 bs.length cap0 w.heap.size bs W1 (HR.out.below B1.out) hsW (by omega)).mono ?_
  rintro e w2 ⟨rfl, hroom, b2⟩
  have hlt2 : W1.heap.size < w2.heap.size := Blk.lt hroom
  have HROOM := Lib.hid hroom
  have B2 := Lib.hid (keepb B1.out b2)
  have HOWN2 := Lib.hid (own_below9 HOWN.out b2)
  have HBK2 := Lib.hid (HBK.out.below b2 HBK.out.lt)
  clear hroom b2
  go_wp2_with fail
  refine (row_any (some ⟨W1.heap.size, 0, none⟩) bs.length (bs.length + 2) (W1.heap.size + 1) bs w2 (HROOM.out.holds rfl).1 (by omega) (by omega)).mono ?_
  rintro e w3 ⟨b3, hok, hbad⟩
  rw [HO.out] at hok hbad
  have B3 := Lib.hid (keepb B2.out b3)
  have HROOM3 : Hid (RoomB w3 W1.heap.size bs) := Lib.hid (Blk.below HROOM.out b3 hlt2)
  have HOWN3 := Lib.hid (own_below9 HOWN2.out b3)
  have HBK3 := Lib.hid (HBK2.out.below b3 HBK2.out.lt)
  have hlt3 := b3.size
  clear b3
  have HL := Lib.hid (left_yes W1.heap.size bs.length cap0 w.heap.size a0 bs w3 HROOM3.out (HR.out.below B3.out) (by omega))
  have HTE := Lib.hid (fun W => tells_any (.slice A o.toks.length c) o.no o.pos o.found o.held W ⟨_, _, _, rfl⟩)
  by_cases h0 : o.no = 0
  · obtain ⟨v, rfl, hrow⟩ := hok h0
    have e0 : ((o.no : Int) != 0) = false := by simp; omega
    have HRW := Lib.hid hrow
    have HEV : Hid (errV o.no o.pos = .nilIface) := Lib.hid (by unfold errV; rw [if_pos h0])
    rw [HEV.out] at HTE
    clear hok hbad hrow h0
    go_wp2_with fail
    refine HL.out.mono ?_
    rintro e w4 ⟨rfl, b4⟩
    have B4 := Lib.hid (keepb B3.out b4)
    have HOWN4 := Lib.hid (own_below9 HOWN3.out b4)
    have HBK4 := Lib.hid (HBK3.out.below b4 HBK3.out.lt)
    have HRW4 := Lib.hid (own_below9 HRW.out b4)
    clear b4
    obtain ⟨n0, n1, n2, n3, n4⟩ := cells5 HBK4.out
    go_wp2_with fail
    clear n0 n1 n2 n3 n4
    refine (HTE.out _).mono ?_
    rintro e w5 ⟨rfl, b5⟩
    have B5 := Lib.hid (keepb B4.out b5)
    have HOWN5 := Lib.hid (own_below9 HOWN4.out b5)
    have HBK5 := Lib.hid (HBK4.out.below b5 HBK4.out.lt)
    have HRW5 := Lib.hid (own_below9 HRW4.out b5)
    clear b5
    obtain ⟨n0, n1, n2, n3, n4⟩ := cells5 HBK5.out
    go_wp2_with fail
    refine (row_yes _ _ _ _ o.toks w5 HRW5.out HOWN5.out HOT.out (by have := HOL.out; omega)).mono ?_
    rintro e w6 ⟨rfl, b6⟩
    have B6 := Lib.hid (keepb B5.out b6)
    clear b6
    go_wp2_with fail
    go_ret
    exact ⟨rfl, B6.out⟩
  · obtain rfl := hbad h0
    have e0 : ((o.no : Int) != 0) = true := by simp; omega
    have HEV : Hid (errV o.no o.pos = spotE (o.no : Nat) (o.pos : Nat)) := Lib.hid (by unfold errV; rw [if_neg h0])
    rw [HEV.out] at HTE
    clear hok hbad h0
    go_wp2_with fail
    refine HL.out.mono ?_
    rintro e w4 ⟨rfl, b4⟩
    have B4 := Lib.hid (keepb B3.out b4)
    have HBK4 := Lib.hid (HBK3.out.below b4 HBK3.out.lt)
    clear b4
    obtain ⟨n0, n1, n2, n3, n4⟩ := cells5 HBK4.out
    go_wp2_with fail
    clear n0 n1 n2 n3 n4
    refine (HTE.out _).mono ?_
    rintro e w5 ⟨rfl, b5⟩
    have B5 := Lib.hid (keepb B4.out b5)
    have HBK5 := Lib.hid (HBK4.out.below b5 HBK4.out.lt)
    clear b5
    obtain ⟨n0, n1, n2, n3, n4⟩ := cells5 HBK5.out
    go_wp2_with fail
    go_ret
    exact ⟨rfl, B5.out⟩
end Go.Proofs.YtgmholdkdppbmaaGreatDoor.lexRows
