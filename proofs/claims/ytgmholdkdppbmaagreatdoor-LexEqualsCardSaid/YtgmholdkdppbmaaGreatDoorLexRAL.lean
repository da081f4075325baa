/-
  Texts of the proof of 'LexR': LexZB, LexZC, LexZD, LexZF, LexZG, LexZI, LexZA, LexZJ, LexZL, LexZK.
-/
import Derived.Test.YtgmholdkdppbmaaGreatDoorLexRAA
import Derived.Test.YtgmholdkdppbmaaGreatDoorLexRAD
import Derived.Test.YtgmholdkdppbmaaGreatDoorLexRAH
import Derived.Test.YtgmholdkdppbmaaGreatDoorLexRAK
import Derived.Test.YtgmholdkdppbmaaGreatDoorRows
import Derived.Deep.QuietTactic
import Derived.BigQuiet
import Derived.Stop.Asserts
import Derived.LaidEql
import Derived.RowKitTokens
import Derived.Lib.IfaceEq
set_option linter.unusedVariables false
set_option linter.unusedSimpArgs false
namespace Go.Proofs.YtgmholdkdppbmaaGreatDoor.Lx
open Go.RowKit
attribute [local go_sem] SGives_value SGives_skip SGives_enter
theorem call_f64bits (n:Nat) (w:World) :
    (callFunc 56 #[.float .f64 n]).run Tryz.prog w = .ok (.value (.int .u64 (n:Int))) w:=by
  rw [run_callFunc_extern Tryz.func56 (by kernel_rfl) (by kernel_rfl) (by kernel_rfl) (e:=Extern.MathFloatBits.float64bits) (by kernel_rfl)]
  kernel_rfl
theorem call_f64from (n:Nat) (w:World) :
    (callFunc 182 #[.int .u64 (n:Int)]).run Tryz.prog w = .ok (.value (.float .f64 n)) w:=by
  rw [run_callFunc_extern Tryz.func182 (by kernel_rfl) (by kernel_rfl) (by kernel_rfl) (e:=Extern.MathFloatBits.float64frombits) (by kernel_rfl)]
  kernel_rfl
theorem sort_num (b:Nat) (w:World):Calls Tryz.prog 192 #[.float .f64 b] w fun e w'=>e = .returned (.int .i64 3) ∧ Below w.heap.size w w':=by
  go_enter Tryz.func192,Tryz.ntmps192
  go_wp2
  go_ret
  exact ⟨rfl,by first | exact Below.refl _ _ | exact (Below.refl _ _).alloc (Nat.le_refl _) _⟩
theorem ms_num (b:Nat) (w:World):(method 391 121 (.float .f64 b) "Sort").run Tryz.prog w = .ok (192,.float .f64 b) w:=by kernel_rfl
theorem tv_num (b:Nat) (w:World):(Instr.typeAssert (.iface 121 (.float .f64 b)) 48 121 true).run Tryz.prog w = .ok (.tuple #[.float .f64 b,.bool true]) w:=by kernel_rfl
theorem sort_str (l:List UInt8) (w:World):Calls Tryz.prog 194 #[.string ⟨l.toArray⟩] w fun e w'=>e = .returned (.int .i64 4) ∧ Below w.heap.size w w':=by
  go_enter Tryz.func194,Tryz.ntmps194
  go_wp2
  go_ret
  exact ⟨rfl,by first | exact Below.refl _ _ | exact (Below.refl _ _).alloc (Nat.le_refl _) _⟩
theorem ms_str (l:List UInt8) (w:World):(method 391 126 (.string ⟨l.toArray⟩) "Sort").run Tryz.prog w = .ok (194,.string ⟨l.toArray⟩) w:=by kernel_rfl
theorem tv_str (l:List UInt8) (w:World):(Instr.typeAssert (.iface 126 (.string ⟨l.toArray⟩)) 48 126 true).run Tryz.prog w = .ok (.tuple #[.string ⟨l.toArray⟩,.bool true]) w:=by kernel_rfl
theorem sort_null  (w:World):Calls Tryz.prog 188 #[.agg #[]] w fun e w'=>e = .returned (.int .i64 1) ∧ Below w.heap.size w w':=by
  go_enter Tryz.func188,Tryz.ntmps188
  go_wp2
  go_ret
  exact ⟨rfl,by first | exact Below.refl _ _ | exact (Below.refl _ _).alloc (Nat.le_refl _) _⟩
theorem ms_null  (w:World):(method 391 97 (.agg #[]) "Sort").run Tryz.prog w = .ok (188,.agg #[]) w:=by kernel_rfl
theorem tv_null  (w:World):(Instr.typeAssert (.iface 97 (.agg #[])) 48 97 true).run Tryz.prog w = .ok (.tuple #[.agg #[],.bool true]) w:=by kernel_rfl
theorem sort_flag (y:Bool) (w:World):Calls Tryz.prog 190 #[.bool y] w fun e w'=>e = .returned (.int .i64 2) ∧ Below w.heap.size w w':=by
  go_enter Tryz.func190,Tryz.ntmps190
  go_wp2
  go_ret
  exact ⟨rfl,by first | exact Below.refl _ _ | exact (Below.refl _ _).alloc (Nat.le_refl _) _⟩
theorem ms_flag (y:Bool) (w:World):(method 391 98 (.bool y) "Sort").run Tryz.prog w = .ok (190,.bool y) w:=by kernel_rfl
theorem tv_flag (y:Bool) (w:World):(Instr.typeAssert (.iface 98 (.bool y)) 48 98 true).run Tryz.prog w = .ok (.tuple #[.bool y,.bool true]) w:=by kernel_rfl
set_option maxRecDepth 100000 in
theorem value_num (p q:Nat) (b:Nat) (w:World) :
    Calls Tryz.prog 38 #[.iface 121 (.float .f64 b),.agg #[.int .i64 3,.int .i64 (p:Nat),.int .i64 (q:Nat),.string ⟨#[]⟩,.int .u64 (b:Nat)]] w fun e w'=>e = .returned (.bool true) ∧ Below w.heap.size w w':=by
  have ta:=tv_num b
  have ms:=ms_num b
  have cb:=call_f64bits b
  have hbb:((b:Int) == (b:Int)) = true:=by simp
  have hb0:=Blk.new w 60 #[.int .i64 3,.int .i64 (p:Nat),.int .i64 (q:Nat),.string ⟨#[]⟩,.int .u64 (b:Nat)]
  go_enter Tryz.func38,Tryz.ntmps38
  go_wp2_with fail
  obtain ⟨S,SD⟩:∃ S:World → Prop,Go.RowKit.Hid (∀ w':World,S w' ↔ (Blk w' w.heap.size 60 #[.int .i64 3,.int .i64 (p:Nat),.int .i64 (q:Nat),.string ⟨#[]⟩,.int .u64 (b:Nat)] ∧ Below w.heap.size w w')):=⟨_,Lib.hid (fun _=>Iff.rfl)⟩
  refine wp_region_sure (S:=S) (by kernel_rfl) (by kernel_rfl) ((SD.out _).2 (⟨hb0.drew,((Below.refl _ _).alloc (Nat.le_refl _) _).drew⟩)) ?_
  repeat
    (first
      | (refine SureL.no (by rfl) ?_;simp only [Act.put,List.setIfInBounds_toArray,List.set_cons_zero,List.set_cons_succ])
      | (refine' SureL.yes (by rfl) (fun wS hS=>?_) ?_
         rotate_left
         · have hS':=(SD.out _).1 hS
           obtain ⟨hk,hB⟩:=hS'
           have c0:=hk.cell 0
           have c3:=hk.cell 3
           have c4:=hk.cell 4
           simp at c0 c3 c4
           go_simp
           first
             | exact ⟨rfl,hS⟩
             | (go_at_call 192;refine (sort_num _ _).mono ?_;rintro e w' ⟨rfl,hb⟩;exact ⟨rfl,(SD.out _).2 ⟨hk.below hb hk.lt,keepb hB hb⟩⟩)
         simp only [Act.put,List.setIfInBounds_toArray,List.set_cons_zero,List.set_cons_succ]))
  refine SureL.nil ?_
  intro wE hE
  obtain ⟨hk,hB⟩:=(SD.out _).1 hE
  clear hE SD
  go_wp2
  go_ret
  exact ⟨rfl,hB⟩
set_option maxRecDepth 100000 in
theorem value_str (p q:Nat) (l:List UInt8) (w:World) :
    Calls Tryz.prog 38 #[.iface 126 (.string ⟨l.toArray⟩),.agg #[.int .i64 4,.int .i64 (p:Nat),.int .i64 (q:Nat),.string ⟨l.toArray⟩,.int .u64 0]] w fun e w'=>e = .returned (.bool true) ∧ Below w.heap.size w w':=by
  have ta:=tv_str l
  have ms:=ms_str l
  have hb0:=Blk.new w 60 #[.int .i64 4,.int .i64 (p:Nat),.int .i64 (q:Nat),.string ⟨l.toArray⟩,.int .u64 0]
  go_enter Tryz.func38,Tryz.ntmps38
  go_wp2_with fail
  refine (sort_str _ _).mono ?_
  rintro e w1 ⟨rfl,hb1⟩
  go_wp2_with fail
  go_ret
  exact ⟨rfl,keepb ((Below.refl _ _).alloc (Nat.le_refl _) _) hb1⟩
set_option maxRecDepth 100000 in
theorem value_null (p q:Nat) (w:World) :
    Calls Tryz.prog 38 #[.iface 97 (.agg #[]),.agg #[.int .i64 2,.int .i64 (p:Nat),.int .i64 (q:Nat),.string ⟨#[110,117,108,108]⟩,.int .u64 0]] w fun e w'=>e = .returned (.bool true) ∧ Below w.heap.size w w':=by
  have ta:=tv_null
  have ms:=ms_null
  have hb0:=Blk.new w 60 #[.int .i64 2,.int .i64 (p:Nat),.int .i64 (q:Nat),.string ⟨#[110,117,108,108]⟩,.int .u64 0]
  go_enter Tryz.func38,Tryz.ntmps38
  go_wp2_with fail
  refine (sort_null _).mono ?_
  rintro e w1 ⟨rfl,hb1⟩
  go_wp2_with fail
  go_ret
  exact ⟨rfl,keepb (((Below.refl _ _).alloc (Nat.le_refl _) _).alloc (by simp) _) hb1⟩
set_option maxRecDepth 100000 in
theorem value_true (p q:Nat) (w:World) :
    Calls Tryz.prog 38 #[.iface 98 (.bool true),.agg #[.int .i64 2,.int .i64 (p:Nat),.int .i64 (q:Nat),.string ⟨#[116,114,117,101]⟩,.int .u64 0]] w fun e w'=>e = .returned (.bool true) ∧ Below w.heap.size w w':=by
  have ta:=tv_flag true
  have ms:=ms_flag true
  have hb0:=Blk.new w 60 #[.int .i64 2,.int .i64 (p:Nat),.int .i64 (q:Nat),.string ⟨#[116,114,117,101]⟩,.int .u64 0]
  go_enter Tryz.func38,Tryz.ntmps38
  go_wp2_with fail
  refine (sort_flag true _).mono ?_
  rintro e w1 ⟨rfl,hb1⟩
  go_wp2_with fail
  go_ret
  exact ⟨rfl,keepb ((Below.refl _ _).alloc (Nat.le_refl _) _) hb1⟩
set_option maxRecDepth 100000 in
theorem value_false (p q:Nat) (w:World) :
    Calls Tryz.prog 38 #[.iface 98 (.bool false),.agg #[.int .i64 2,.int .i64 (p:Nat),.int .i64 (q:Nat),.string ⟨#[102,97,108,115,101]⟩,.int .u64 0]] w fun e w'=>e = .returned (.bool true) ∧ Below w.heap.size w w':=by
  have ta:=tv_flag false
  have ms:=ms_flag false
  have hb0:=Blk.new w 60 #[.int .i64 2,.int .i64 (p:Nat),.int .i64 (q:Nat),.string ⟨#[102,97,108,115,101]⟩,.int .u64 0]
  go_enter Tryz.func38,Tryz.ntmps38
  go_wp2_with fail
  refine (sort_flag false _).mono ?_
  rintro e w1 ⟨rfl,hb1⟩
  go_wp2_with fail
  go_ret
  exact ⟨rfl,keepb ((Below.refl _ _).alloc (Nat.le_refl _) _) hb1⟩
end Go.Proofs.YtgmholdkdppbmaaGreatDoor.Lx

namespace Go.Proofs.YtgmholdkdppbmaaGreatDoor.Lx
open Go.RowKit Go.Extern.Stop Go.Stop Go.Extern Go.Lib
attribute [local go_sem] SGives_value SGives_skip SGives_enter
theorem span_place (p q:Nat) (w:World):Calls Tryz.prog 179 #[.agg #[.int .i64 (p:Nat),.int .i64 (q:Nat)]] w fun e w'=>e = .returned (.int .i64 (p:Nat)) ∧ Below w.heap.size w w':=by
  go_enter Tryz.func179,Tryz.ntmps179
  go_wp2
  go_ret
  exact ⟨rfl,(Below.refl _ _).alloc (Nat.le_refl _) _⟩
theorem span_width (p q:Nat) (w:World):Calls Tryz.prog 22 #[.agg #[.int .i64 (p:Nat),.int .i64 (q:Nat)]] w fun e w'=>e = .returned (.int .i64 (q:Nat)) ∧ Below w.heap.size w w':=by
  go_enter Tryz.func22,Tryz.ntmps22
  go_wp2
  go_ret
  exact ⟨rfl,(Below.refl _ _).alloc (Nat.le_refl _) _⟩
theorem ts_Mark_Mark (p q:Nat) (c:UInt8) (w:World):(Instr.typeAssert (.iface 83 (.agg #[.int .i64 (p:Nat),.int .i64 (q:Nat),.int .u8 (c.toNat:Int)])) 35 83 true).run Tryz.prog w = .ok (.tuple #[.agg #[.int .i64 (p:Nat),.int .i64 (q:Nat),.int .u8 (c.toNat:Int)],.bool true]) w:=by kernel_rfl
theorem ts_Mark_Term (p q:Nat) (c:UInt8) (w:World):(Instr.typeAssert (.iface 83 (.agg #[.int .i64 (p:Nat),.int .i64 (q:Nat),.int .u8 (c.toNat:Int)])) 35 52 true).run Tryz.prog w = .ok (.tuple #[.agg #[.int .i64 0,.int .i64 0,.string ⟨#[]⟩],.bool false]) w:=by kernel_rfl
theorem ts_Mark_Num (p q:Nat) (c:UInt8) (w:World):(Instr.typeAssert (.iface 83 (.agg #[.int .i64 (p:Nat),.int .i64 (q:Nat),.int .u8 (c.toNat:Int)])) 35 87 true).run Tryz.prog w = .ok (.tuple #[.agg #[.int .i64 0,.int .i64 0,.int .u64 0],.bool false]) w:=by kernel_rfl
theorem ts_Mark_Str (p q:Nat) (c:UInt8) (w:World):(Instr.typeAssert (.iface 83 (.agg #[.int .i64 (p:Nat),.int .i64 (q:Nat),.int .u8 (c.toNat:Int)])) 35 90 true).run Tryz.prog w = .ok (.tuple #[.agg #[.int .i64 0,.int .i64 0,.string ⟨#[]⟩],.bool false]) w:=by kernel_rfl
theorem ts_Mark_Leaf (p q:Nat) (c:UInt8) (w:World):(Instr.typeAssert (.iface 83 (.agg #[.int .i64 (p:Nat),.int .i64 (q:Nat),.int .u8 (c.toNat:Int)])) 35 72 true).run Tryz.prog w = .ok (.tuple #[.nilIface,.bool false]) w:=run_typeAssert_lacksB Tryz.underlying72 (by kernel_rfl) (by kernel_rfl) _ _ w
theorem mt_Mark_Place (p q:Nat) (c:UInt8) (w:World):(method 391 83 (.agg #[.int .i64 (p:Nat),.int .i64 (q:Nat),.int .u8 (c.toNat:Int)]) "Place").run Tryz.prog w = .ok (179,.agg #[.int .i64 (p:Nat),.int .i64 (q:Nat)]) w:=by kernel_rfl
theorem mt_Mark_Width (p q:Nat) (c:UInt8) (w:World):(method 391 83 (.agg #[.int .i64 (p:Nat),.int .i64 (q:Nat),.int .u8 (c.toNat:Int)]) "Width").run Tryz.prog w = .ok (22,.agg #[.int .i64 (p:Nat),.int .i64 (q:Nat)]) w:=by kernel_rfl
theorem ts_Term_Mark (p q:Nat) (l:List UInt8) (w:World):(Instr.typeAssert (.iface 52 (.agg #[.int .i64 (p:Nat),.int .i64 (q:Nat),.string ⟨l.toArray⟩])) 35 83 true).run Tryz.prog w = .ok (.tuple #[.agg #[.int .i64 0,.int .i64 0,.int .u8 0],.bool false]) w:=by kernel_rfl
theorem ts_Term_Term (p q:Nat) (l:List UInt8) (w:World):(Instr.typeAssert (.iface 52 (.agg #[.int .i64 (p:Nat),.int .i64 (q:Nat),.string ⟨l.toArray⟩])) 35 52 true).run Tryz.prog w = .ok (.tuple #[.agg #[.int .i64 (p:Nat),.int .i64 (q:Nat),.string ⟨l.toArray⟩],.bool true]) w:=by kernel_rfl
theorem ts_Term_Num (p q:Nat) (l:List UInt8) (w:World):(Instr.typeAssert (.iface 52 (.agg #[.int .i64 (p:Nat),.int .i64 (q:Nat),.string ⟨l.toArray⟩])) 35 87 true).run Tryz.prog w = .ok (.tuple #[.agg #[.int .i64 0,.int .i64 0,.int .u64 0],.bool false]) w:=by kernel_rfl
theorem ts_Term_Str (p q:Nat) (l:List UInt8) (w:World):(Instr.typeAssert (.iface 52 (.agg #[.int .i64 (p:Nat),.int .i64 (q:Nat),.string ⟨l.toArray⟩])) 35 90 true).run Tryz.prog w = .ok (.tuple #[.agg #[.int .i64 0,.int .i64 0,.string ⟨#[]⟩],.bool false]) w:=by kernel_rfl
theorem ts_Term_Leaf (p q:Nat) (l:List UInt8) (w:World):(Instr.typeAssert (.iface 52 (.agg #[.int .i64 (p:Nat),.int .i64 (q:Nat),.string ⟨l.toArray⟩])) 35 72 true).run Tryz.prog w = .ok (.tuple #[.iface 52 (.agg #[.int .i64 (p:Nat),.int .i64 (q:Nat),.string ⟨l.toArray⟩]),.bool true]) w:=by kernel_rfl
theorem mt_Term_Place (p q:Nat) (l:List UInt8) (w:World):(method 391 52 (.agg #[.int .i64 (p:Nat),.int .i64 (q:Nat),.string ⟨l.toArray⟩]) "Place").run Tryz.prog w = .ok (179,.agg #[.int .i64 (p:Nat),.int .i64 (q:Nat)]) w:=by kernel_rfl
theorem mt_Term_Width (p q:Nat) (l:List UInt8) (w:World):(method 391 52 (.agg #[.int .i64 (p:Nat),.int .i64 (q:Nat),.string ⟨l.toArray⟩]) "Width").run Tryz.prog w = .ok (22,.agg #[.int .i64 (p:Nat),.int .i64 (q:Nat)]) w:=by kernel_rfl
theorem mt_Term_Value (p q:Nat) (l:List UInt8) (w:World):(method 391 52 (.agg #[.int .i64 (p:Nat),.int .i64 (q:Nat),.string ⟨l.toArray⟩]) "Value").run Tryz.prog w = .ok (21,.agg #[.int .i64 (p:Nat),.int .i64 (q:Nat),.string ⟨l.toArray⟩]) w:=by kernel_rfl
theorem ts_Num_Mark (p q:Nat) (b:Nat) (w:World):(Instr.typeAssert (.iface 87 (.agg #[.int .i64 (p:Nat),.int .i64 (q:Nat),.int .u64 (b:Nat)])) 35 83 true).run Tryz.prog w = .ok (.tuple #[.agg #[.int .i64 0,.int .i64 0,.int .u8 0],.bool false]) w:=by kernel_rfl
theorem ts_Num_Term (p q:Nat) (b:Nat) (w:World):(Instr.typeAssert (.iface 87 (.agg #[.int .i64 (p:Nat),.int .i64 (q:Nat),.int .u64 (b:Nat)])) 35 52 true).run Tryz.prog w = .ok (.tuple #[.agg #[.int .i64 0,.int .i64 0,.string ⟨#[]⟩],.bool false]) w:=by kernel_rfl
theorem ts_Num_Num (p q:Nat) (b:Nat) (w:World):(Instr.typeAssert (.iface 87 (.agg #[.int .i64 (p:Nat),.int .i64 (q:Nat),.int .u64 (b:Nat)])) 35 87 true).run Tryz.prog w = .ok (.tuple #[.agg #[.int .i64 (p:Nat),.int .i64 (q:Nat),.int .u64 (b:Nat)],.bool true]) w:=by kernel_rfl
theorem ts_Num_Str (p q:Nat) (b:Nat) (w:World):(Instr.typeAssert (.iface 87 (.agg #[.int .i64 (p:Nat),.int .i64 (q:Nat),.int .u64 (b:Nat)])) 35 90 true).run Tryz.prog w = .ok (.tuple #[.agg #[.int .i64 0,.int .i64 0,.string ⟨#[]⟩],.bool false]) w:=by kernel_rfl
theorem ts_Num_Leaf (p q:Nat) (b:Nat) (w:World):(Instr.typeAssert (.iface 87 (.agg #[.int .i64 (p:Nat),.int .i64 (q:Nat),.int .u64 (b:Nat)])) 35 72 true).run Tryz.prog w = .ok (.tuple #[.iface 87 (.agg #[.int .i64 (p:Nat),.int .i64 (q:Nat),.int .u64 (b:Nat)]),.bool true]) w:=by kernel_rfl
theorem mt_Num_Place (p q:Nat) (b:Nat) (w:World):(method 391 87 (.agg #[.int .i64 (p:Nat),.int .i64 (q:Nat),.int .u64 (b:Nat)]) "Place").run Tryz.prog w = .ok (179,.agg #[.int .i64 (p:Nat),.int .i64 (q:Nat)]) w:=by kernel_rfl
theorem mt_Num_Width (p q:Nat) (b:Nat) (w:World):(method 391 87 (.agg #[.int .i64 (p:Nat),.int .i64 (q:Nat),.int .u64 (b:Nat)]) "Width").run Tryz.prog w = .ok (22,.agg #[.int .i64 (p:Nat),.int .i64 (q:Nat)]) w:=by kernel_rfl
theorem mt_Num_Value (p q:Nat) (b:Nat) (w:World):(method 391 87 (.agg #[.int .i64 (p:Nat),.int .i64 (q:Nat),.int .u64 (b:Nat)]) "Value").run Tryz.prog w = .ok (181,.agg #[.int .i64 (p:Nat),.int .i64 (q:Nat),.int .u64 (b:Nat)]) w:=by kernel_rfl
theorem ts_Str_Mark (p q:Nat) (l:List UInt8) (w:World):(Instr.typeAssert (.iface 90 (.agg #[.int .i64 (p:Nat),.int .i64 (q:Nat),.string ⟨l.toArray⟩])) 35 83 true).run Tryz.prog w = .ok (.tuple #[.agg #[.int .i64 0,.int .i64 0,.int .u8 0],.bool false]) w:=by kernel_rfl
theorem ts_Str_Term (p q:Nat) (l:List UInt8) (w:World):(Instr.typeAssert (.iface 90 (.agg #[.int .i64 (p:Nat),.int .i64 (q:Nat),.string ⟨l.toArray⟩])) 35 52 true).run Tryz.prog w = .ok (.tuple #[.agg #[.int .i64 0,.int .i64 0,.string ⟨#[]⟩],.bool false]) w:=by kernel_rfl
theorem ts_Str_Num (p q:Nat) (l:List UInt8) (w:World):(Instr.typeAssert (.iface 90 (.agg #[.int .i64 (p:Nat),.int .i64 (q:Nat),.string ⟨l.toArray⟩])) 35 87 true).run Tryz.prog w = .ok (.tuple #[.agg #[.int .i64 0,.int .i64 0,.int .u64 0],.bool false]) w:=by kernel_rfl
theorem ts_Str_Str (p q:Nat) (l:List UInt8) (w:World):(Instr.typeAssert (.iface 90 (.agg #[.int .i64 (p:Nat),.int .i64 (q:Nat),.string ⟨l.toArray⟩])) 35 90 true).run Tryz.prog w = .ok (.tuple #[.agg #[.int .i64 (p:Nat),.int .i64 (q:Nat),.string ⟨l.toArray⟩],.bool true]) w:=by kernel_rfl
theorem ts_Str_Leaf (p q:Nat) (l:List UInt8) (w:World):(Instr.typeAssert (.iface 90 (.agg #[.int .i64 (p:Nat),.int .i64 (q:Nat),.string ⟨l.toArray⟩])) 35 72 true).run Tryz.prog w = .ok (.tuple #[.iface 90 (.agg #[.int .i64 (p:Nat),.int .i64 (q:Nat),.string ⟨l.toArray⟩]),.bool true]) w:=by kernel_rfl
theorem mt_Str_Place (p q:Nat) (l:List UInt8) (w:World):(method 391 90 (.agg #[.int .i64 (p:Nat),.int .i64 (q:Nat),.string ⟨l.toArray⟩]) "Place").run Tryz.prog w = .ok (179,.agg #[.int .i64 (p:Nat),.int .i64 (q:Nat)]) w:=by kernel_rfl
theorem mt_Str_Width (p q:Nat) (l:List UInt8) (w:World):(method 391 90 (.agg #[.int .i64 (p:Nat),.int .i64 (q:Nat),.string ⟨l.toArray⟩]) "Width").run Tryz.prog w = .ok (22,.agg #[.int .i64 (p:Nat),.int .i64 (q:Nat)]) w:=by kernel_rfl
theorem mt_Str_Value (p q:Nat) (l:List UInt8) (w:World):(method 391 90 (.agg #[.int .i64 (p:Nat),.int .i64 (q:Nat),.string ⟨l.toArray⟩]) "Value").run Tryz.prog w = .ok (183,.agg #[.int .i64 (p:Nat),.int .i64 (q:Nat),.string ⟨l.toArray⟩]) w:=by kernel_rfl
theorem val_num (p q b:Nat) (w:World):Calls Tryz.prog 181 #[.agg #[.int .i64 (p:Nat),.int .i64 (q:Nat),.int .u64 (b:Nat)]] w fun e w'=>e = .returned (.iface 121 (.float .f64 b)) ∧ Below w.heap.size w w':=by
  have cf:=call_f64from b
  go_enter Tryz.func181,Tryz.ntmps181
  go_wp2
  go_ret
  exact ⟨rfl,(Below.refl _ _).alloc (Nat.le_refl _) _⟩
theorem val_str (p q:Nat) (l:List UInt8) (w:World):Calls Tryz.prog 183 #[.agg #[.int .i64 (p:Nat),.int .i64 (q:Nat),.string ⟨l.toArray⟩]] w fun e w'=>e = .returned (.iface 126 (.string ⟨l.toArray⟩)) ∧ Below w.heap.size w w':=by
  go_enter Tryz.func183,Tryz.ntmps183
  go_wp2
  go_ret
  exact ⟨rfl,(Below.refl _ _).alloc (Nat.le_refl _) _⟩
theorem val_null (p q:Nat) (w:World):Calls Tryz.prog 21 #[.agg #[.int .i64 (p:Nat),.int .i64 (q:Nat),.string ⟨#[110,117,108,108]⟩]] w fun e w'=>e = .returned (.iface 97 (.agg #[])) ∧ Below w.heap.size w w':=by
  go_enter Tryz.func21,Tryz.ntmps21
  go_wp2
  go_ret
  exact ⟨rfl,by first | exact (Below.refl _ _).alloc (Nat.le_refl _) _ | exact ((Below.refl _ _).alloc (Nat.le_refl _) _).alloc (by simp) _⟩
theorem val_true (p q:Nat) (w:World):Calls Tryz.prog 21 #[.agg #[.int .i64 (p:Nat),.int .i64 (q:Nat),.string ⟨#[116,114,117,101]⟩]] w fun e w'=>e = .returned (.iface 98 (.bool true)) ∧ Below w.heap.size w w':=by
  go_enter Tryz.func21,Tryz.ntmps21
  go_wp2
  go_ret
  exact ⟨rfl,by first | exact (Below.refl _ _).alloc (Nat.le_refl _) _ | exact ((Below.refl _ _).alloc (Nat.le_refl _) _).alloc (by simp) _⟩
theorem val_false (p q:Nat) (w:World):Calls Tryz.prog 21 #[.agg #[.int .i64 (p:Nat),.int .i64 (q:Nat),.string ⟨#[102,97,108,115,101]⟩]] w fun e w'=>e = .returned (.iface 98 (.bool false)) ∧ Below w.heap.size w w':=by
  go_enter Tryz.func21,Tryz.ntmps21
  go_wp2
  go_ret
  exact ⟨rfl,by first | exact (Below.refl _ _).alloc (Nat.le_refl _) _ | exact ((Below.refl _ _).alloc (Nat.le_refl _) _).alloc (by simp) _⟩
end Go.Proofs.YtgmholdkdppbmaaGreatDoor.Lx

namespace Go.Proofs.YtgmholdkdppbmaaGreatDoor.Lx
open Go.RowKit Go.Extern.Stop Go.Stop Go.Extern Go.Lib
attribute [local go_sem] SGives_value SGives_skip SGives_enter
theorem cl2 {w:World} {g:Nat} {t:TypeId} {a b:Value} (h:Blk w g t #[a,b]):w.cell? ⟨g,0,none⟩ = some a ∧ w.cell? ⟨g,1,none⟩ = some b:=⟨by rw [h.cell];rfl,by rw [h.cell];rfl⟩
theorem cl3 {w:World} {g:Nat} {t:TypeId} {a b c:Value} (h:Blk w g t #[a,b,c]):w.cell? ⟨g,0,none⟩ = some a ∧ w.cell? ⟨g,1,none⟩ = some b ∧ w.cell? ⟨g,2,none⟩ = some c:=⟨by rw [h.cell];rfl,by rw [h.cell];rfl,by rw [h.cell];rfl⟩
theorem cl5 {w:World} {g:Nat} {t:TypeId} {a b c d e:Value} (h:Blk w g t #[a,b,c,d,e]):w.cell? ⟨g,0,none⟩ = some a ∧ w.cell? ⟨g,1,none⟩ = some b ∧ w.cell? ⟨g,2,none⟩ = some c ∧ w.cell? ⟨g,3,none⟩ = some d ∧ w.cell? ⟨g,4,none⟩ = some e :=
  ⟨by rw [h.cell];rfl,by rw [h.cell];rfl,by rw [h.cell];rfl,by rw [h.cell];rfl,by rw [h.cell];rfl⟩
set_option maxRecDepth 100000 in
set_option maxHeartbeats 4000000 in
theorem same_mark (p q:Nat) (c:UInt8) (w:World) :
    Calls Tryz.prog 25 #[.iface 83 (.agg #[.int .i64 (p:Nat),.int .i64 (q:Nat),.int .u8 (c.toNat:Int)]),.agg #[.int .i64 1,.int .i64 (p:Nat),.int .i64 (q:Nat),.string ⟨#[c]⟩,.int .u64 0]] w fun e w'=>e = .returned (.bool true) ∧ Below w.heap.size w w':=by
  have taMark:=ts_Mark_Mark p q c
  have taTerm:=ts_Mark_Term p q c
  have taNum:=ts_Mark_Num p q c
  have taStr:=ts_Mark_Str p q c
  have taLeaf:=ts_Mark_Leaf p q c
  have mtPlace:=mt_Mark_Place p q c
  have mtWidth:=mt_Mark_Width p q c
  have hcx:((⟨#[c]⟩:ByteArray)[0]'(by show 0 < 1;decide)) = c:=rfl
  have hb0:=Blk.new w 60 #[.int .i64 1,.int .i64 (p:Nat),.int .i64 (q:Nat),.string ⟨#[c]⟩,.int .u64 0]
  go_enter Tryz.func25,Tryz.ntmps25
  go_wp2_with fail
  obtain ⟨S,SD⟩:∃ S:World → Prop,Go.RowKit.Hid (∀ w':World,S w' ↔ (Blk w' w.heap.size 60 #[.int .i64 1,.int .i64 (p:Nat),.int .i64 (q:Nat),.string ⟨#[c]⟩,.int .u64 0] ∧ Below w.heap.size w w')):=⟨_,Lib.hid (fun _=>Iff.rfl)⟩
  refine wp_region_sure (S:=S) (by kernel_rfl) (by kernel_rfl) ((SD.out _).2 (⟨hb0.drew,((Below.refl _ _).alloc (Nat.le_refl _) _).drew⟩)) ?_
  repeat
    (first
      | (refine SureL.no (by rfl) ?_;simp only [Act.put,List.setIfInBounds_toArray,List.set_cons_zero,List.set_cons_succ])
      | (refine' SureL.yes (by rfl) (fun wS hS=>?_) ?_
         rotate_left
         · have hS':=(SD.out _).1 hS
           obtain ⟨hk,hB⟩:=hS'
           have c0:=hk.cell 0
           have c1:=hk.cell 1
           have c2:=hk.cell 2
           have c3:=hk.cell 3
           have c4:=hk.cell 4
           simp at c0 c1 c2 c3 c4
           go_simp
           first
             | exact ⟨rfl,hS⟩
             | (go_at_call 179;refine (span_place _ _ _).mono ?_;rintro e w' ⟨rfl,hb⟩;exact ⟨rfl,(SD.out _).2 ⟨hk.below hb hk.lt,keepb hB hb⟩⟩)
             | (go_at_call 22;refine (span_width _ _ _).mono ?_;rintro e w' ⟨rfl,hb⟩;exact ⟨rfl,(SD.out _).2 ⟨hk.below hb hk.lt,keepb hB hb⟩⟩)
         simp only [Act.put,List.setIfInBounds_toArray,List.set_cons_zero,List.set_cons_succ]))
  refine SureL.nil ?_
  intro wE hE
  obtain ⟨hk,hB⟩:=(SD.out _).1 hE
  clear hE SD
  have c0:=hk.cell 0
  have c1:=hk.cell 1
  have c2:=hk.cell 2
  have c3:=hk.cell 3
  have c4:=hk.cell 4
  simp at c0 c1 c2 c3 c4
  have hk5:=(((((hk.alloc (.cells #[.int .i64 (p:Nat),.int .i64 (q:Nat)] 50)).alloc (.cells #[.int .i64 (p:Nat),.int .i64 (q:Nat),.int .u8 (c.toNat:Int)] 83)).alloc (.cells #[.int .i64 0,.int .i64 0,.string ⟨#[]⟩] 52)).alloc (.cells #[.int .i64 0,.int .i64 0,.int .u64 0] 87)).alloc (.cells #[.int .i64 0,.int .i64 0,.string ⟨#[]⟩] 90))
  have hs5:=(((((Blk.new wE 50 #[.int .i64 (p:Nat),.int .i64 (q:Nat)]).alloc (.cells #[.int .i64 (p:Nat),.int .i64 (q:Nat),.int .u8 (c.toNat:Int)] 83)).alloc (.cells #[.int .i64 0,.int .i64 0,.string ⟨#[]⟩] 52)).alloc (.cells #[.int .i64 0,.int .i64 0,.int .u64 0] 87)).alloc (.cells #[.int .i64 0,.int .i64 0,.string ⟨#[]⟩] 90))
  have ht5:=((((Blk.new (wE.alloc (.cells #[.int .i64 (p:Nat),.int .i64 (q:Nat)] 50)) 83 #[.int .i64 (p:Nat),.int .i64 (q:Nat),.int .u8 (c.toNat:Int)]).alloc (.cells #[.int .i64 0,.int .i64 0,.string ⟨#[]⟩] 52)).alloc (.cells #[.int .i64 0,.int .i64 0,.int .u64 0] 87)).alloc (.cells #[.int .i64 0,.int .i64 0,.string ⟨#[]⟩] 90))
  simp only [World.size_alloc] at ht5
  obtain ⟨x0,x1,x2,x3,x4⟩:=cl5 hk5
  obtain ⟨y0,y1⟩:=cl2 hs5
  obtain ⟨z0,z1,z2⟩:=cl3 ht5
  go_wp2_with fail
  clear x0 x1 x2 x3 x4 y0 y1 z0 z1 z2 c0 c1 c2 c3 c4
  obtain ⟨S,SE⟩:∃ S:World → Prop,Go.RowKit.Hid (∀ w':World,S w' ↔ (Blk w' w.heap.size 60 #[.int .i64 1,.int .i64 (p:Nat),.int .i64 (q:Nat),.string ⟨#[c]⟩,.int .u64 0] ∧ Blk w' wE.heap.size 50 #[.int .i64 (p:Nat),.int .i64 (q:Nat)] ∧ Blk w' (wE.heap.size + 1) 83 #[.int .i64 (p:Nat),.int .i64 (q:Nat),.int .u8 (c.toNat:Int)] ∧ Below w.heap.size w w')):=⟨_,Lib.hid (fun _=>Iff.rfl)⟩
  refine wp_region_sure (S:=S) (by kernel_rfl) (by kernel_rfl) ((SE.out _).2 (⟨hk5.drew,hs5.drew,ht5.drew,(((((hB.alloc (by first | exact hB.size | (simp;have:=hB.size;omega)) (.cells #[.int .i64 (p:Nat),.int .i64 (q:Nat)] 50)).alloc (by first | exact hB.size | (simp;have:=hB.size;omega)) (.cells #[.int .i64 (p:Nat),.int .i64 (q:Nat),.int .u8 (c.toNat:Int)] 83)).alloc (by first | exact hB.size | (simp;have:=hB.size;omega)) (.cells #[.int .i64 0,.int .i64 0,.string ⟨#[]⟩] 52)).alloc (by first | exact hB.size | (simp;have:=hB.size;omega)) (.cells #[.int .i64 0,.int .i64 0,.int .u64 0] 87)).alloc (by first | exact hB.size | (simp;have:=hB.size;omega)) (.cells #[.int .i64 0,.int .i64 0,.string ⟨#[]⟩] 90)).drew⟩)) ?_
  repeat
    (first
      | (refine SureL.no (by rfl) ?_;simp only [Act.put,List.setIfInBounds_toArray,List.set_cons_zero,List.set_cons_succ])
      | (refine' SureL.yes (by rfl) (fun wS hS=>?_) ?_
         rotate_left
         · have hS':=(SE.out _).1 hS
           obtain ⟨hk,hs,ht,hB⟩:=hS'
           obtain ⟨x0,x1,x2,x3,x4⟩:=cl5 hk
           obtain ⟨y0,y1⟩:=cl2 hs
           obtain ⟨z0,z1,z2⟩:=cl3 ht
           go_simp
           first
             | exact ⟨rfl,hS⟩
         simp only [Act.put,List.setIfInBounds_toArray,List.set_cons_zero,List.set_cons_succ]))
  refine SureL.nil ?_
  intro wF hF
  obtain ⟨hk,hs,ht,hB⟩:=(SE.out _).1 hF
  clear hF SE hk5 hs5 ht5
  obtain ⟨x0,x1,x2,x3,x4⟩:=cl5 hk
  obtain ⟨y0,y1⟩:=cl2 hs
  obtain ⟨z0,z1,z2⟩:=cl3 ht
  go_wp2_with fail
  clear x0 x1 x2 x3 x4 y0 y1 z0 z1 z2
  obtain ⟨S,SE⟩:∃ S:World → Prop,Go.RowKit.Hid (∀ w':World,S w' ↔ (Blk w' w.heap.size 60 #[.int .i64 1,.int .i64 (p:Nat),.int .i64 (q:Nat),.string ⟨#[c]⟩,.int .u64 0] ∧ Blk w' wE.heap.size 50 #[.int .i64 (p:Nat),.int .i64 (q:Nat)] ∧ Blk w' (wE.heap.size + 1) 83 #[.int .i64 (p:Nat),.int .i64 (q:Nat),.int .u8 (c.toNat:Int)] ∧ Below w.heap.size w w')):=⟨_,Lib.hid (fun _=>Iff.rfl)⟩
  refine wp_region_sure (S:=S) (by kernel_rfl) (by kernel_rfl) ((SE.out _).2 (⟨hk.drew,hs.drew,ht.drew,hB.drew⟩)) ?_
  repeat
    (first
      | (refine SureL.no (by rfl) ?_;simp only [Act.put,List.setIfInBounds_toArray,List.set_cons_zero,List.set_cons_succ])
      | (refine' SureL.yes (by rfl) (fun wS hS=>?_) ?_
         rotate_left
         · have hS':=(SE.out _).1 hS
           obtain ⟨hk,hs,ht,hB⟩:=hS'
           obtain ⟨x0,x1,x2,x3,x4⟩:=cl5 hk
           obtain ⟨y0,y1⟩:=cl2 hs
           obtain ⟨z0,z1,z2⟩:=cl3 ht
           go_simp
           first
             | exact ⟨rfl,hS⟩
         simp only [Act.put,List.setIfInBounds_toArray,List.set_cons_zero,List.set_cons_succ]))
  refine SureL.nil ?_
  intro wG hG
  obtain ⟨hk,hs,ht,hB⟩:=(SE.out _).1 hG
  clear hG SE
  go_wp2_with fail
  go_ret
  exact ⟨rfl,hB⟩
set_option maxRecDepth 100000 in
set_option maxHeartbeats 4000000 in
theorem same_num (p q:Nat) (b:Nat) (w:World) :
    Calls Tryz.prog 25 #[.iface 87 (.agg #[.int .i64 (p:Nat),.int .i64 (q:Nat),.int .u64 (b:Nat)]),.agg #[.int .i64 3,.int .i64 (p:Nat),.int .i64 (q:Nat),.string ⟨#[]⟩,.int .u64 (b:Nat)]] w fun e w'=>e = .returned (.bool true) ∧ Below w.heap.size w w':=by
  have taMark:=ts_Num_Mark p q b
  have taTerm:=ts_Num_Term p q b
  have taNum:=ts_Num_Num p q b
  have taStr:=ts_Num_Str p q b
  have taLeaf:=ts_Num_Leaf p q b
  have mtPlace:=mt_Num_Place p q b
  have mtWidth:=mt_Num_Width p q b
  have mtValue:=mt_Num_Value p q b
  have hb0:=Blk.new w 60 #[.int .i64 3,.int .i64 (p:Nat),.int .i64 (q:Nat),.string ⟨#[]⟩,.int .u64 (b:Nat)]
  go_enter Tryz.func25,Tryz.ntmps25
  go_wp2_with fail
  obtain ⟨S,SD⟩:∃ S:World → Prop,Go.RowKit.Hid (∀ w':World,S w' ↔ (Blk w' w.heap.size 60 #[.int .i64 3,.int .i64 (p:Nat),.int .i64 (q:Nat),.string ⟨#[]⟩,.int .u64 (b:Nat)] ∧ Below w.heap.size w w')):=⟨_,Lib.hid (fun _=>Iff.rfl)⟩
  refine wp_region_sure (S:=S) (by kernel_rfl) (by kernel_rfl) ((SD.out _).2 (⟨hb0.drew,((Below.refl _ _).alloc (Nat.le_refl _) _).drew⟩)) ?_
  repeat
    (first
      | (refine SureL.no (by rfl) ?_;simp only [Act.put,List.setIfInBounds_toArray,List.set_cons_zero,List.set_cons_succ])
      | (refine' SureL.yes (by rfl) (fun wS hS=>?_) ?_
         rotate_left
         · have hS':=(SD.out _).1 hS
           obtain ⟨hk,hB⟩:=hS'
           have c0:=hk.cell 0
           have c1:=hk.cell 1
           have c2:=hk.cell 2
           have c3:=hk.cell 3
           have c4:=hk.cell 4
           simp at c0 c1 c2 c3 c4
           go_simp
           first
             | exact ⟨rfl,hS⟩
             | (go_at_call 179;refine (span_place _ _ _).mono ?_;rintro e w' ⟨rfl,hb⟩;exact ⟨rfl,(SD.out _).2 ⟨hk.below hb hk.lt,keepb hB hb⟩⟩)
             | (go_at_call 22;refine (span_width _ _ _).mono ?_;rintro e w' ⟨rfl,hb⟩;exact ⟨rfl,(SD.out _).2 ⟨hk.below hb hk.lt,keepb hB hb⟩⟩)
         simp only [Act.put,List.setIfInBounds_toArray,List.set_cons_zero,List.set_cons_succ]))
  refine SureL.nil ?_
  intro wE hE
  obtain ⟨hk,hB⟩:=(SD.out _).1 hE
  clear hE SD
  have c0:=hk.cell 0
  have c1:=hk.cell 1
  have c2:=hk.cell 2
  have c3:=hk.cell 3
  have c4:=hk.cell 4
  simp at c0 c1 c2 c3 c4
  have hk5:=(((((hk.alloc (.cells #[.int .i64 (p:Nat),.int .i64 (q:Nat)] 50)).alloc (.cells #[.int .i64 0,.int .i64 0,.int .u8 0] 83)).alloc (.cells #[.int .i64 0,.int .i64 0,.string ⟨#[]⟩] 52)).alloc (.cells #[.int .i64 (p:Nat),.int .i64 (q:Nat),.int .u64 (b:Nat)] 87)).alloc (.cells #[.int .i64 0,.int .i64 0,.string ⟨#[]⟩] 90))
  have hs5:=(((((Blk.new wE 50 #[.int .i64 (p:Nat),.int .i64 (q:Nat)]).alloc (.cells #[.int .i64 0,.int .i64 0,.int .u8 0] 83)).alloc (.cells #[.int .i64 0,.int .i64 0,.string ⟨#[]⟩] 52)).alloc (.cells #[.int .i64 (p:Nat),.int .i64 (q:Nat),.int .u64 (b:Nat)] 87)).alloc (.cells #[.int .i64 0,.int .i64 0,.string ⟨#[]⟩] 90))
  have ht5:=((Blk.new (((wE.alloc (.cells #[.int .i64 (p:Nat),.int .i64 (q:Nat)] 50)).alloc (.cells #[.int .i64 0,.int .i64 0,.int .u8 0] 83)).alloc (.cells #[.int .i64 0,.int .i64 0,.string ⟨#[]⟩] 52)) 87 #[.int .i64 (p:Nat),.int .i64 (q:Nat),.int .u64 (b:Nat)]).alloc (.cells #[.int .i64 0,.int .i64 0,.string ⟨#[]⟩] 90))
  simp only [World.size_alloc] at ht5
  obtain ⟨x0,x1,x2,x3,x4⟩:=cl5 hk5
  obtain ⟨y0,y1⟩:=cl2 hs5
  obtain ⟨z0,z1,z2⟩:=cl3 ht5
  go_wp2_with fail
  clear x0 x1 x2 x3 x4 y0 y1 z0 z1 z2 c0 c1 c2 c3 c4
  obtain ⟨S,SE⟩:∃ S:World → Prop,Go.RowKit.Hid (∀ w':World,S w' ↔ (Blk w' w.heap.size 60 #[.int .i64 3,.int .i64 (p:Nat),.int .i64 (q:Nat),.string ⟨#[]⟩,.int .u64 (b:Nat)] ∧ Blk w' wE.heap.size 50 #[.int .i64 (p:Nat),.int .i64 (q:Nat)] ∧ Blk w' (wE.heap.size + 1 + 1 + 1) 87 #[.int .i64 (p:Nat),.int .i64 (q:Nat),.int .u64 (b:Nat)] ∧ Below w.heap.size w w')):=⟨_,Lib.hid (fun _=>Iff.rfl)⟩
  refine wp_region_sure (S:=S) (by kernel_rfl) (by kernel_rfl) ((SE.out _).2 (⟨hk5.drew,hs5.drew,ht5.drew,(((((hB.alloc (by first | exact hB.size | (simp;have:=hB.size;omega)) (.cells #[.int .i64 (p:Nat),.int .i64 (q:Nat)] 50)).alloc (by first | exact hB.size | (simp;have:=hB.size;omega)) (.cells #[.int .i64 0,.int .i64 0,.int .u8 0] 83)).alloc (by first | exact hB.size | (simp;have:=hB.size;omega)) (.cells #[.int .i64 0,.int .i64 0,.string ⟨#[]⟩] 52)).alloc (by first | exact hB.size | (simp;have:=hB.size;omega)) (.cells #[.int .i64 (p:Nat),.int .i64 (q:Nat),.int .u64 (b:Nat)] 87)).alloc (by first | exact hB.size | (simp;have:=hB.size;omega)) (.cells #[.int .i64 0,.int .i64 0,.string ⟨#[]⟩] 90)).drew⟩)) ?_
  repeat
    (first
      | (refine SureL.no (by rfl) ?_;simp only [Act.put,List.setIfInBounds_toArray,List.set_cons_zero,List.set_cons_succ])
      | (refine' SureL.yes (by rfl) (fun wS hS=>?_) ?_
         rotate_left
         · have hS':=(SE.out _).1 hS
           obtain ⟨hk,hs,ht,hB⟩:=hS'
           obtain ⟨x0,x1,x2,x3,x4⟩:=cl5 hk
           obtain ⟨y0,y1⟩:=cl2 hs
           obtain ⟨z0,z1,z2⟩:=cl3 ht
           go_simp
           first
             | exact ⟨rfl,hS⟩
             | (go_at_call 181;refine (val_num _ _ _ _).mono ?_;rintro e w' ⟨rfl,hb⟩;exact ⟨rfl,(SE.out _).2 ⟨hk.below hb hk.lt,hs.below hb hs.lt,ht.below hb ht.lt,keepb hB hb⟩⟩)
             | (go_at_call 38;refine (value_num _ _ _ _).mono ?_;rintro e w' ⟨rfl,hb⟩;exact ⟨rfl,(SE.out _).2 ⟨hk.below hb hk.lt,hs.below hb hs.lt,ht.below hb ht.lt,keepb hB hb⟩⟩)
         simp only [Act.put,List.setIfInBounds_toArray,List.set_cons_zero,List.set_cons_succ]))
  refine SureL.nil ?_
  intro wF hF
  obtain ⟨hk,hs,ht,hB⟩:=(SE.out _).1 hF
  clear hF SE hk5 hs5 ht5
  obtain ⟨x0,x1,x2,x3,x4⟩:=cl5 hk
  obtain ⟨y0,y1⟩:=cl2 hs
  obtain ⟨z0,z1,z2⟩:=cl3 ht
  go_wp2_with fail
  go_ret
  exact ⟨rfl,hB⟩
set_option maxRecDepth 100000 in
set_option maxHeartbeats 4000000 in
theorem same_str (p q:Nat) (l:List UInt8) (w:World) :
    Calls Tryz.prog 25 #[.iface 90 (.agg #[.int .i64 (p:Nat),.int .i64 (q:Nat),.string ⟨l.toArray⟩]),.agg #[.int .i64 4,.int .i64 (p:Nat),.int .i64 (q:Nat),.string ⟨l.toArray⟩,.int .u64 0]] w fun e w'=>e = .returned (.bool true) ∧ Below w.heap.size w w':=by
  have taMark:=ts_Str_Mark p q l
  have taTerm:=ts_Str_Term p q l
  have taNum:=ts_Str_Num p q l
  have taStr:=ts_Str_Str p q l
  have taLeaf:=ts_Str_Leaf p q l
  have mtPlace:=mt_Str_Place p q l
  have mtWidth:=mt_Str_Width p q l
  have mtValue:=mt_Str_Value p q l
  have hb0:=Blk.new w 60 #[.int .i64 4,.int .i64 (p:Nat),.int .i64 (q:Nat),.string ⟨l.toArray⟩,.int .u64 0]
  go_enter Tryz.func25,Tryz.ntmps25
  go_wp2_with fail
  obtain ⟨S,SD⟩:∃ S:World → Prop,Go.RowKit.Hid (∀ w':World,S w' ↔ (Blk w' w.heap.size 60 #[.int .i64 4,.int .i64 (p:Nat),.int .i64 (q:Nat),.string ⟨l.toArray⟩,.int .u64 0] ∧ Below w.heap.size w w')):=⟨_,Lib.hid (fun _=>Iff.rfl)⟩
  refine wp_region_sure (S:=S) (by kernel_rfl) (by kernel_rfl) ((SD.out _).2 (⟨hb0.drew,((Below.refl _ _).alloc (Nat.le_refl _) _).drew⟩)) ?_
  repeat
    (first
      | (refine SureL.no (by rfl) ?_;simp only [Act.put,List.setIfInBounds_toArray,List.set_cons_zero,List.set_cons_succ])
      | (refine' SureL.yes (by rfl) (fun wS hS=>?_) ?_
         rotate_left
         · have hS':=(SD.out _).1 hS
           obtain ⟨hk,hB⟩:=hS'
           have c0:=hk.cell 0
           have c1:=hk.cell 1
           have c2:=hk.cell 2
           have c3:=hk.cell 3
           have c4:=hk.cell 4
           simp at c0 c1 c2 c3 c4
           go_simp
           first
             | exact ⟨rfl,hS⟩
             | (go_at_call 179;refine (span_place _ _ _).mono ?_;rintro e w' ⟨rfl,hb⟩;exact ⟨rfl,(SD.out _).2 ⟨hk.below hb hk.lt,keepb hB hb⟩⟩)
             | (go_at_call 22;refine (span_width _ _ _).mono ?_;rintro e w' ⟨rfl,hb⟩;exact ⟨rfl,(SD.out _).2 ⟨hk.below hb hk.lt,keepb hB hb⟩⟩)
         simp only [Act.put,List.setIfInBounds_toArray,List.set_cons_zero,List.set_cons_succ]))
  refine SureL.nil ?_
  intro wE hE
  obtain ⟨hk,hB⟩:=(SD.out _).1 hE
  clear hE SD
  have c0:=hk.cell 0
  have c1:=hk.cell 1
  have c2:=hk.cell 2
  have c3:=hk.cell 3
  have c4:=hk.cell 4
  simp at c0 c1 c2 c3 c4
  have hk5:=(((((hk.alloc (.cells #[.int .i64 (p:Nat),.int .i64 (q:Nat)] 50)).alloc (.cells #[.int .i64 0,.int .i64 0,.int .u8 0] 83)).alloc (.cells #[.int .i64 0,.int .i64 0,.string ⟨#[]⟩] 52)).alloc (.cells #[.int .i64 0,.int .i64 0,.int .u64 0] 87)).alloc (.cells #[.int .i64 (p:Nat),.int .i64 (q:Nat),.string ⟨l.toArray⟩] 90))
  have hs5:=(((((Blk.new wE 50 #[.int .i64 (p:Nat),.int .i64 (q:Nat)]).alloc (.cells #[.int .i64 0,.int .i64 0,.int .u8 0] 83)).alloc (.cells #[.int .i64 0,.int .i64 0,.string ⟨#[]⟩] 52)).alloc (.cells #[.int .i64 0,.int .i64 0,.int .u64 0] 87)).alloc (.cells #[.int .i64 (p:Nat),.int .i64 (q:Nat),.string ⟨l.toArray⟩] 90))
  have ht5:=(Blk.new ((((wE.alloc (.cells #[.int .i64 (p:Nat),.int .i64 (q:Nat)] 50)).alloc (.cells #[.int .i64 0,.int .i64 0,.int .u8 0] 83)).alloc (.cells #[.int .i64 0,.int .i64 0,.string ⟨#[]⟩] 52)).alloc (.cells #[.int .i64 0,.int .i64 0,.int .u64 0] 87)) 90 #[.int .i64 (p:Nat),.int .i64 (q:Nat),.string ⟨l.toArray⟩])
  simp only [World.size_alloc] at ht5
  obtain ⟨x0,x1,x2,x3,x4⟩:=cl5 hk5
  obtain ⟨y0,y1⟩:=cl2 hs5
  obtain ⟨z0,z1,z2⟩:=cl3 ht5
  go_wp2_with fail
  clear x0 x1 x2 x3 x4 y0 y1 z0 z1 z2 c0 c1 c2 c3 c4
  obtain ⟨S,SE⟩:∃ S:World → Prop,Go.RowKit.Hid (∀ w':World,S w' ↔ (Blk w' w.heap.size 60 #[.int .i64 4,.int .i64 (p:Nat),.int .i64 (q:Nat),.string ⟨l.toArray⟩,.int .u64 0] ∧ Blk w' wE.heap.size 50 #[.int .i64 (p:Nat),.int .i64 (q:Nat)] ∧ Blk w' (wE.heap.size + 1 + 1 + 1 + 1) 90 #[.int .i64 (p:Nat),.int .i64 (q:Nat),.string ⟨l.toArray⟩] ∧ Below w.heap.size w w')):=⟨_,Lib.hid (fun _=>Iff.rfl)⟩
  refine wp_region_sure (S:=S) (by kernel_rfl) (by kernel_rfl) ((SE.out _).2 (⟨hk5.drew,hs5.drew,ht5.drew,(((((hB.alloc (by first | exact hB.size | (simp;have:=hB.size;omega)) (.cells #[.int .i64 (p:Nat),.int .i64 (q:Nat)] 50)).alloc (by first | exact hB.size | (simp;have:=hB.size;omega)) (.cells #[.int .i64 0,.int .i64 0,.int .u8 0] 83)).alloc (by first | exact hB.size | (simp;have:=hB.size;omega)) (.cells #[.int .i64 0,.int .i64 0,.string ⟨#[]⟩] 52)).alloc (by first | exact hB.size | (simp;have:=hB.size;omega)) (.cells #[.int .i64 0,.int .i64 0,.int .u64 0] 87)).alloc (by first | exact hB.size | (simp;have:=hB.size;omega)) (.cells #[.int .i64 (p:Nat),.int .i64 (q:Nat),.string ⟨l.toArray⟩] 90)).drew⟩)) ?_
  repeat
    (first
      | (refine SureL.no (by rfl) ?_;simp only [Act.put,List.setIfInBounds_toArray,List.set_cons_zero,List.set_cons_succ])
      | (refine' SureL.yes (by rfl) (fun wS hS=>?_) ?_
         rotate_left
         · have hS':=(SE.out _).1 hS
           obtain ⟨hk,hs,ht,hB⟩:=hS'
           obtain ⟨x0,x1,x2,x3,x4⟩:=cl5 hk
           obtain ⟨y0,y1⟩:=cl2 hs
           obtain ⟨z0,z1,z2⟩:=cl3 ht
           go_simp
           first
             | exact ⟨rfl,hS⟩
             | (go_at_call 183;refine (val_str _ _ _ _).mono ?_;rintro e w' ⟨rfl,hb⟩;exact ⟨rfl,(SE.out _).2 ⟨hk.below hb hk.lt,hs.below hb hs.lt,ht.below hb ht.lt,keepb hB hb⟩⟩)
             | (go_at_call 38;refine (value_str _ _ _ _).mono ?_;rintro e w' ⟨rfl,hb⟩;exact ⟨rfl,(SE.out _).2 ⟨hk.below hb hk.lt,hs.below hb hs.lt,ht.below hb ht.lt,keepb hB hb⟩⟩)
         simp only [Act.put,List.setIfInBounds_toArray,List.set_cons_zero,List.set_cons_succ]))
  refine SureL.nil ?_
  intro wF hF
  obtain ⟨hk,hs,ht,hB⟩:=(SE.out _).1 hF
  clear hF SE hk5 hs5 ht5
  obtain ⟨x0,x1,x2,x3,x4⟩:=cl5 hk
  obtain ⟨y0,y1⟩:=cl2 hs
  obtain ⟨z0,z1,z2⟩:=cl3 ht
  go_wp2_with fail
  go_ret
  exact ⟨rfl,hB⟩
set_option maxRecDepth 100000 in
set_option maxHeartbeats 4000000 in
theorem same_null (p q:Nat) (w:World) :
    Calls Tryz.prog 25 #[.iface 52 (.agg #[.int .i64 (p:Nat),.int .i64 (q:Nat),.string ⟨#[110,117,108,108]⟩]),.agg #[.int .i64 2,.int .i64 (p:Nat),.int .i64 (q:Nat),.string ⟨#[110,117,108,108]⟩,.int .u64 0]] w fun e w'=>e = .returned (.bool true) ∧ Below w.heap.size w w':=by
  have taMark:=ts_Term_Mark p q [110,117,108,108]
  have taTerm:=ts_Term_Term p q [110,117,108,108]
  have taNum:=ts_Term_Num p q [110,117,108,108]
  have taStr:=ts_Term_Str p q [110,117,108,108]
  have taLeaf:=ts_Term_Leaf p q [110,117,108,108]
  have mtPlace:=mt_Term_Place p q [110,117,108,108]
  have mtWidth:=mt_Term_Width p q [110,117,108,108]
  have mtValue:=mt_Term_Value p q [110,117,108,108]
  have hb0:=Blk.new w 60 #[.int .i64 2,.int .i64 (p:Nat),.int .i64 (q:Nat),.string ⟨#[110,117,108,108]⟩,.int .u64 0]
  go_enter Tryz.func25,Tryz.ntmps25
  go_wp2_with fail
  obtain ⟨S,SD⟩:∃ S:World → Prop,Go.RowKit.Hid (∀ w':World,S w' ↔ (Blk w' w.heap.size 60 #[.int .i64 2,.int .i64 (p:Nat),.int .i64 (q:Nat),.string ⟨#[110,117,108,108]⟩,.int .u64 0] ∧ Below w.heap.size w w')):=⟨_,Lib.hid (fun _=>Iff.rfl)⟩
  refine wp_region_sure (S:=S) (by kernel_rfl) (by kernel_rfl) ((SD.out _).2 (⟨hb0.drew,((Below.refl _ _).alloc (Nat.le_refl _) _).drew⟩)) ?_
  repeat
    (first
      | (refine SureL.no (by rfl) ?_;simp only [Act.put,List.setIfInBounds_toArray,List.set_cons_zero,List.set_cons_succ])
      | (refine' SureL.yes (by rfl) (fun wS hS=>?_) ?_
         rotate_left
         · have hS':=(SD.out _).1 hS
           obtain ⟨hk,hB⟩:=hS'
           have c0:=hk.cell 0
           have c1:=hk.cell 1
           have c2:=hk.cell 2
           have c3:=hk.cell 3
           have c4:=hk.cell 4
           simp at c0 c1 c2 c3 c4
           go_simp
           first
             | exact ⟨rfl,hS⟩
             | (go_at_call 179;refine (span_place _ _ _).mono ?_;rintro e w' ⟨rfl,hb⟩;exact ⟨rfl,(SD.out _).2 ⟨hk.below hb hk.lt,keepb hB hb⟩⟩)
             | (go_at_call 22;refine (span_width _ _ _).mono ?_;rintro e w' ⟨rfl,hb⟩;exact ⟨rfl,(SD.out _).2 ⟨hk.below hb hk.lt,keepb hB hb⟩⟩)
         simp only [Act.put,List.setIfInBounds_toArray,List.set_cons_zero,List.set_cons_succ]))
  refine SureL.nil ?_
  intro wE hE
  obtain ⟨hk,hB⟩:=(SD.out _).1 hE
  clear hE SD
  have c0:=hk.cell 0
  have c1:=hk.cell 1
  have c2:=hk.cell 2
  have c3:=hk.cell 3
  have c4:=hk.cell 4
  simp at c0 c1 c2 c3 c4
  have hk5:=(((((hk.alloc (.cells #[.int .i64 (p:Nat),.int .i64 (q:Nat)] 50)).alloc (.cells #[.int .i64 0,.int .i64 0,.int .u8 0] 83)).alloc (.cells #[.int .i64 (p:Nat),.int .i64 (q:Nat),.string ⟨#[110,117,108,108]⟩] 52)).alloc (.cells #[.int .i64 0,.int .i64 0,.int .u64 0] 87)).alloc (.cells #[.int .i64 0,.int .i64 0,.string ⟨#[]⟩] 90))
  have hs5:=(((((Blk.new wE 50 #[.int .i64 (p:Nat),.int .i64 (q:Nat)]).alloc (.cells #[.int .i64 0,.int .i64 0,.int .u8 0] 83)).alloc (.cells #[.int .i64 (p:Nat),.int .i64 (q:Nat),.string ⟨#[110,117,108,108]⟩] 52)).alloc (.cells #[.int .i64 0,.int .i64 0,.int .u64 0] 87)).alloc (.cells #[.int .i64 0,.int .i64 0,.string ⟨#[]⟩] 90))
  have ht5:=(((Blk.new ((wE.alloc (.cells #[.int .i64 (p:Nat),.int .i64 (q:Nat)] 50)).alloc (.cells #[.int .i64 0,.int .i64 0,.int .u8 0] 83)) 52 #[.int .i64 (p:Nat),.int .i64 (q:Nat),.string ⟨#[110,117,108,108]⟩]).alloc (.cells #[.int .i64 0,.int .i64 0,.int .u64 0] 87)).alloc (.cells #[.int .i64 0,.int .i64 0,.string ⟨#[]⟩] 90))
  simp only [World.size_alloc] at ht5
  obtain ⟨x0,x1,x2,x3,x4⟩:=cl5 hk5
  obtain ⟨y0,y1⟩:=cl2 hs5
  obtain ⟨z0,z1,z2⟩:=cl3 ht5
  go_wp2_with fail
  clear x0 x1 x2 x3 x4 y0 y1 z0 z1 z2 c0 c1 c2 c3 c4
  obtain ⟨S,SE⟩:∃ S:World → Prop,Go.RowKit.Hid (∀ w':World,S w' ↔ (Blk w' w.heap.size 60 #[.int .i64 2,.int .i64 (p:Nat),.int .i64 (q:Nat),.string ⟨#[110,117,108,108]⟩,.int .u64 0] ∧ Blk w' wE.heap.size 50 #[.int .i64 (p:Nat),.int .i64 (q:Nat)] ∧ Blk w' (wE.heap.size + 1 + 1) 52 #[.int .i64 (p:Nat),.int .i64 (q:Nat),.string ⟨#[110,117,108,108]⟩] ∧ Below w.heap.size w w')):=⟨_,Lib.hid (fun _=>Iff.rfl)⟩
  refine wp_region_sure (S:=S) (by kernel_rfl) (by kernel_rfl) ((SE.out _).2 (⟨hk5.drew,hs5.drew,ht5.drew,(((((hB.alloc (by first | exact hB.size | (simp;have:=hB.size;omega)) (.cells #[.int .i64 (p:Nat),.int .i64 (q:Nat)] 50)).alloc (by first | exact hB.size | (simp;have:=hB.size;omega)) (.cells #[.int .i64 0,.int .i64 0,.int .u8 0] 83)).alloc (by first | exact hB.size | (simp;have:=hB.size;omega)) (.cells #[.int .i64 (p:Nat),.int .i64 (q:Nat),.string ⟨#[110,117,108,108]⟩] 52)).alloc (by first | exact hB.size | (simp;have:=hB.size;omega)) (.cells #[.int .i64 0,.int .i64 0,.int .u64 0] 87)).alloc (by first | exact hB.size | (simp;have:=hB.size;omega)) (.cells #[.int .i64 0,.int .i64 0,.string ⟨#[]⟩] 90)).drew⟩)) ?_
  repeat
    (first
      | (refine SureL.no (by rfl) ?_;simp only [Act.put,List.setIfInBounds_toArray,List.set_cons_zero,List.set_cons_succ])
      | (refine' SureL.yes (by rfl) (fun wS hS=>?_) ?_
         rotate_left
         · have hS':=(SE.out _).1 hS
           obtain ⟨hk,hs,ht,hB⟩:=hS'
           obtain ⟨x0,x1,x2,x3,x4⟩:=cl5 hk
           obtain ⟨y0,y1⟩:=cl2 hs
           obtain ⟨z0,z1,z2⟩:=cl3 ht
           go_simp
           first
             | exact ⟨rfl,hS⟩
             | (go_at_call 21;refine (val_null _ _ _).mono ?_;rintro e w' ⟨rfl,hb⟩;exact ⟨rfl,(SE.out _).2 ⟨hk.below hb hk.lt,hs.below hb hs.lt,ht.below hb ht.lt,keepb hB hb⟩⟩)
             | (go_at_call 38;refine (value_null _ _ _).mono ?_;rintro e w' ⟨rfl,hb⟩;exact ⟨rfl,(SE.out _).2 ⟨hk.below hb hk.lt,hs.below hb hs.lt,ht.below hb ht.lt,keepb hB hb⟩⟩)
         simp only [Act.put,List.setIfInBounds_toArray,List.set_cons_zero,List.set_cons_succ]))
  refine SureL.nil ?_
  intro wF hF
  obtain ⟨hk,hs,ht,hB⟩:=(SE.out _).1 hF
  clear hF SE hk5 hs5 ht5
  obtain ⟨x0,x1,x2,x3,x4⟩:=cl5 hk
  obtain ⟨y0,y1⟩:=cl2 hs
  obtain ⟨z0,z1,z2⟩:=cl3 ht
  go_wp2_with fail
  go_ret
  exact ⟨rfl,hB⟩
set_option maxRecDepth 100000 in
set_option maxHeartbeats 4000000 in
theorem same_true (p q:Nat) (w:World) :
    Calls Tryz.prog 25 #[.iface 52 (.agg #[.int .i64 (p:Nat),.int .i64 (q:Nat),.string ⟨#[116,114,117,101]⟩]),.agg #[.int .i64 2,.int .i64 (p:Nat),.int .i64 (q:Nat),.string ⟨#[116,114,117,101]⟩,.int .u64 0]] w fun e w'=>e = .returned (.bool true) ∧ Below w.heap.size w w':=by
  have taMark:=ts_Term_Mark p q [116,114,117,101]
  have taTerm:=ts_Term_Term p q [116,114,117,101]
  have taNum:=ts_Term_Num p q [116,114,117,101]
  have taStr:=ts_Term_Str p q [116,114,117,101]
  have taLeaf:=ts_Term_Leaf p q [116,114,117,101]
  have mtPlace:=mt_Term_Place p q [116,114,117,101]
  have mtWidth:=mt_Term_Width p q [116,114,117,101]
  have mtValue:=mt_Term_Value p q [116,114,117,101]
  have hb0:=Blk.new w 60 #[.int .i64 2,.int .i64 (p:Nat),.int .i64 (q:Nat),.string ⟨#[116,114,117,101]⟩,.int .u64 0]
  go_enter Tryz.func25,Tryz.ntmps25
  go_wp2_with fail
  obtain ⟨S,SD⟩:∃ S:World → Prop,Go.RowKit.Hid (∀ w':World,S w' ↔ (Blk w' w.heap.size 60 #[.int .i64 2,.int .i64 (p:Nat),.int .i64 (q:Nat),.string ⟨#[116,114,117,101]⟩,.int .u64 0] ∧ Below w.heap.size w w')):=⟨_,Lib.hid (fun _=>Iff.rfl)⟩
  refine wp_region_sure (S:=S) (by kernel_rfl) (by kernel_rfl) ((SD.out _).2 (⟨hb0.drew,((Below.refl _ _).alloc (Nat.le_refl _) _).drew⟩)) ?_
  repeat
    (first
      | (refine SureL.no (by rfl) ?_;simp only [Act.put,List.setIfInBounds_toArray,List.set_cons_zero,List.set_cons_succ])
      | (refine' SureL.yes (by rfl) (fun wS hS=>?_) ?_
         rotate_left
         · have hS':=(SD.out _).1 hS
           obtain ⟨hk,hB⟩:=hS'
           have c0:=hk.cell 0
           have c1:=hk.cell 1
           have c2:=hk.cell 2
           have c3:=hk.cell 3
           have c4:=hk.cell 4
           simp at c0 c1 c2 c3 c4
           go_simp
           first
             | exact ⟨rfl,hS⟩
             | (go_at_call 179;refine (span_place _ _ _).mono ?_;rintro e w' ⟨rfl,hb⟩;exact ⟨rfl,(SD.out _).2 ⟨hk.below hb hk.lt,keepb hB hb⟩⟩)
             | (go_at_call 22;refine (span_width _ _ _).mono ?_;rintro e w' ⟨rfl,hb⟩;exact ⟨rfl,(SD.out _).2 ⟨hk.below hb hk.lt,keepb hB hb⟩⟩)
         simp only [Act.put,List.setIfInBounds_toArray,List.set_cons_zero,List.set_cons_succ]))
  refine SureL.nil ?_
  intro wE hE
  obtain ⟨hk,hB⟩:=(SD.out _).1 hE
  clear hE SD
  have c0:=hk.cell 0
  have c1:=hk.cell 1
  have c2:=hk.cell 2
  have c3:=hk.cell 3
  have c4:=hk.cell 4
  simp at c0 c1 c2 c3 c4
  have hk5:=(((((hk.alloc (.cells #[.int .i64 (p:Nat),.int .i64 (q:Nat)] 50)).alloc (.cells #[.int .i64 0,.int .i64 0,.int .u8 0] 83)).alloc (.cells #[.int .i64 (p:Nat),.int .i64 (q:Nat),.string ⟨#[116,114,117,101]⟩] 52)).alloc (.cells #[.int .i64 0,.int .i64 0,.int .u64 0] 87)).alloc (.cells #[.int .i64 0,.int .i64 0,.string ⟨#[]⟩] 90))
  have hs5:=(((((Blk.new wE 50 #[.int .i64 (p:Nat),.int .i64 (q:Nat)]).alloc (.cells #[.int .i64 0,.int .i64 0,.int .u8 0] 83)).alloc (.cells #[.int .i64 (p:Nat),.int .i64 (q:Nat),.string ⟨#[116,114,117,101]⟩] 52)).alloc (.cells #[.int .i64 0,.int .i64 0,.int .u64 0] 87)).alloc (.cells #[.int .i64 0,.int .i64 0,.string ⟨#[]⟩] 90))
  have ht5:=(((Blk.new ((wE.alloc (.cells #[.int .i64 (p:Nat),.int .i64 (q:Nat)] 50)).alloc (.cells #[.int .i64 0,.int .i64 0,.int .u8 0] 83)) 52 #[.int .i64 (p:Nat),.int .i64 (q:Nat),.string ⟨#[116,114,117,101]⟩]).alloc (.cells #[.int .i64 0,.int .i64 0,.int .u64 0] 87)).alloc (.cells #[.int .i64 0,.int .i64 0,.string ⟨#[]⟩] 90))
  simp only [World.size_alloc] at ht5
  obtain ⟨x0,x1,x2,x3,x4⟩:=cl5 hk5
  obtain ⟨y0,y1⟩:=cl2 hs5
  obtain ⟨z0,z1,z2⟩:=cl3 ht5
  go_wp2_with fail
  clear x0 x1 x2 x3 x4 y0 y1 z0 z1 z2 c0 c1 c2 c3 c4
  obtain ⟨S,SE⟩:∃ S:World → Prop,Go.RowKit.Hid (∀ w':World,S w' ↔ (Blk w' w.heap.size 60 #[.int .i64 2,.int .i64 (p:Nat),.int .i64 (q:Nat),.string ⟨#[116,114,117,101]⟩,.int .u64 0] ∧ Blk w' wE.heap.size 50 #[.int .i64 (p:Nat),.int .i64 (q:Nat)] ∧ Blk w' (wE.heap.size + 1 + 1) 52 #[.int .i64 (p:Nat),.int .i64 (q:Nat),.string ⟨#[116,114,117,101]⟩] ∧ Below w.heap.size w w')):=⟨_,Lib.hid (fun _=>Iff.rfl)⟩
  refine wp_region_sure (S:=S) (by kernel_rfl) (by kernel_rfl) ((SE.out _).2 (⟨hk5.drew,hs5.drew,ht5.drew,(((((hB.alloc (by first | exact hB.size | (simp;have:=hB.size;omega)) (.cells #[.int .i64 (p:Nat),.int .i64 (q:Nat)] 50)).alloc (by first | exact hB.size | (simp;have:=hB.size;omega)) (.cells #[.int .i64 0,.int .i64 0,.int .u8 0] 83)).alloc (by first | exact hB.size | (simp;have:=hB.size;omega)) (.cells #[.int .i64 (p:Nat),.int .i64 (q:Nat),.string ⟨#[116,114,117,101]⟩] 52)).alloc (by first | exact hB.size | (simp;have:=hB.size;omega)) (.cells #[.int .i64 0,.int .i64 0,.int .u64 0] 87)).alloc (by first | exact hB.size | (simp;have:=hB.size;omega)) (.cells #[.int .i64 0,.int .i64 0,.string ⟨#[]⟩] 90)).drew⟩)) ?_
  repeat
    (first
      | (refine SureL.no (by rfl) ?_;simp only [Act.put,List.setIfInBounds_toArray,List.set_cons_zero,List.set_cons_succ])
      | (refine' SureL.yes (by rfl) (fun wS hS=>?_) ?_
         rotate_left
         · have hS':=(SE.out _).1 hS
           obtain ⟨hk,hs,ht,hB⟩:=hS'
           obtain ⟨x0,x1,x2,x3,x4⟩:=cl5 hk
           obtain ⟨y0,y1⟩:=cl2 hs
           obtain ⟨z0,z1,z2⟩:=cl3 ht
           go_simp
           first
             | exact ⟨rfl,hS⟩
             | (go_at_call 21;refine (val_true _ _ _).mono ?_;rintro e w' ⟨rfl,hb⟩;exact ⟨rfl,(SE.out _).2 ⟨hk.below hb hk.lt,hs.below hb hs.lt,ht.below hb ht.lt,keepb hB hb⟩⟩)
             | (go_at_call 38;refine (value_true _ _ _).mono ?_;rintro e w' ⟨rfl,hb⟩;exact ⟨rfl,(SE.out _).2 ⟨hk.below hb hk.lt,hs.below hb hs.lt,ht.below hb ht.lt,keepb hB hb⟩⟩)
         simp only [Act.put,List.setIfInBounds_toArray,List.set_cons_zero,List.set_cons_succ]))
  refine SureL.nil ?_
  intro wF hF
  obtain ⟨hk,hs,ht,hB⟩:=(SE.out _).1 hF
  clear hF SE hk5 hs5 ht5
  obtain ⟨x0,x1,x2,x3,x4⟩:=cl5 hk
  obtain ⟨y0,y1⟩:=cl2 hs
  obtain ⟨z0,z1,z2⟩:=cl3 ht
  go_wp2_with fail
  go_ret
  exact ⟨rfl,hB⟩
set_option maxRecDepth 100000 in
set_option maxHeartbeats 4000000 in
theorem same_false (p q:Nat) (w:World) :
    Calls Tryz.prog 25 #[.iface 52 (.agg #[.int .i64 (p:Nat),.int .i64 (q:Nat),.string ⟨#[102,97,108,115,101]⟩]),.agg #[.int .i64 2,.int .i64 (p:Nat),.int .i64 (q:Nat),.string ⟨#[102,97,108,115,101]⟩,.int .u64 0]] w fun e w'=>e = .returned (.bool true) ∧ Below w.heap.size w w':=by
  have taMark:=ts_Term_Mark p q [102,97,108,115,101]
  have taTerm:=ts_Term_Term p q [102,97,108,115,101]
  have taNum:=ts_Term_Num p q [102,97,108,115,101]
  have taStr:=ts_Term_Str p q [102,97,108,115,101]
  have taLeaf:=ts_Term_Leaf p q [102,97,108,115,101]
  have mtPlace:=mt_Term_Place p q [102,97,108,115,101]
  have mtWidth:=mt_Term_Width p q [102,97,108,115,101]
  have mtValue:=mt_Term_Value p q [102,97,108,115,101]
  have hb0:=Blk.new w 60 #[.int .i64 2,.int .i64 (p:Nat),.int .i64 (q:Nat),.string ⟨#[102,97,108,115,101]⟩,.int .u64 0]
  go_enter Tryz.func25,Tryz.ntmps25
  go_wp2_with fail
  obtain ⟨S,SD⟩:∃ S:World → Prop,Go.RowKit.Hid (∀ w':World,S w' ↔ (Blk w' w.heap.size 60 #[.int .i64 2,.int .i64 (p:Nat),.int .i64 (q:Nat),.string ⟨#[102,97,108,115,101]⟩,.int .u64 0] ∧ Below w.heap.size w w')):=⟨_,Lib.hid (fun _=>Iff.rfl)⟩
  refine wp_region_sure (S:=S) (by kernel_rfl) (by kernel_rfl) ((SD.out _).2 (⟨hb0.drew,((Below.refl _ _).alloc (Nat.le_refl _) _).drew⟩)) ?_
  repeat
    (first
      | (refine SureL.no (by rfl) ?_;simp only [Act.put,List.setIfInBounds_toArray,List.set_cons_zero,List.set_cons_succ])
      | (refine' SureL.yes (by rfl) (fun wS hS=>?_) ?_
         rotate_left
         · have hS':=(SD.out _).1 hS
           obtain ⟨hk,hB⟩:=hS'
           have c0:=hk.cell 0
           have c1:=hk.cell 1
           have c2:=hk.cell 2
           have c3:=hk.cell 3
           have c4:=hk.cell 4
           simp at c0 c1 c2 c3 c4
           go_simp
           first
             | exact ⟨rfl,hS⟩
             | (go_at_call 179;refine (span_place _ _ _).mono ?_;rintro e w' ⟨rfl,hb⟩;exact ⟨rfl,(SD.out _).2 ⟨hk.below hb hk.lt,keepb hB hb⟩⟩)
             | (go_at_call 22;refine (span_width _ _ _).mono ?_;rintro e w' ⟨rfl,hb⟩;exact ⟨rfl,(SD.out _).2 ⟨hk.below hb hk.lt,keepb hB hb⟩⟩)
         simp only [Act.put,List.setIfInBounds_toArray,List.set_cons_zero,List.set_cons_succ]))
  refine SureL.nil ?_
  intro wE hE
  obtain ⟨hk,hB⟩:=(SD.out _).1 hE
  clear hE SD
  have c0:=hk.cell 0
  have c1:=hk.cell 1
  have c2:=hk.cell 2
  have c3:=hk.cell 3
  have c4:=hk.cell 4
  simp at c0 c1 c2 c3 c4
  have hk5:=(((((hk.alloc (.cells #[.int .i64 (p:Nat),.int .i64 (q:Nat)] 50)).alloc (.cells #[.int .i64 0,.int .i64 0,.int .u8 0] 83)).alloc (.cells #[.int .i64 (p:Nat),.int .i64 (q:Nat),.string ⟨#[102,97,108,115,101]⟩] 52)).alloc (.cells #[.int .i64 0,.int .i64 0,.int .u64 0] 87)).alloc (.cells #[.int .i64 0,.int .i64 0,.string ⟨#[]⟩] 90))
  have hs5:=(((((Blk.new wE 50 #[.int .i64 (p:Nat),.int .i64 (q:Nat)]).alloc (.cells #[.int .i64 0,.int .i64 0,.int .u8 0] 83)).alloc (.cells #[.int .i64 (p:Nat),.int .i64 (q:Nat),.string ⟨#[102,97,108,115,101]⟩] 52)).alloc (.cells #[.int .i64 0,.int .i64 0,.int .u64 0] 87)).alloc (.cells #[.int .i64 0,.int .i64 0,.string ⟨#[]⟩] 90))
  have ht5:=(((Blk.new ((wE.alloc (.cells #[.int .i64 (p:Nat),.int .i64 (q:Nat)] 50)).alloc (.cells #[.int .i64 0,.int .i64 0,.int .u8 0] 83)) 52 #[.int .i64 (p:Nat),.int .i64 (q:Nat),.string ⟨#[102,97,108,115,101]⟩]).alloc (.cells #[.int .i64 0,.int .i64 0,.int .u64 0] 87)).alloc (.cells #[.int .i64 0,.int .i64 0,.string ⟨#[]⟩] 90))
  simp only [World.size_alloc] at ht5
  obtain ⟨x0,x1,x2,x3,x4⟩:=cl5 hk5
  obtain ⟨y0,y1⟩:=cl2 hs5
  obtain ⟨z0,z1,z2⟩:=cl3 ht5
  go_wp2_with fail
  clear x0 x1 x2 x3 x4 y0 y1 z0 z1 z2 c0 c1 c2 c3 c4
  obtain ⟨S,SE⟩:∃ S:World → Prop,Go.RowKit.Hid (∀ w':World,S w' ↔ (Blk w' w.heap.size 60 #[.int .i64 2,.int .i64 (p:Nat),.int .i64 (q:Nat),.string ⟨#[102,97,108,115,101]⟩,.int .u64 0] ∧ Blk w' wE.heap.size 50 #[.int .i64 (p:Nat),.int .i64 (q:Nat)] ∧ Blk w' (wE.heap.size + 1 + 1) 52 #[.int .i64 (p:Nat),.int .i64 (q:Nat),.string ⟨#[102,97,108,115,101]⟩] ∧ Below w.heap.size w w')):=⟨_,Lib.hid (fun _=>Iff.rfl)⟩
  refine wp_region_sure (S:=S) (by kernel_rfl) (by kernel_rfl) ((SE.out _).2 (⟨hk5.drew,hs5.drew,ht5.drew,(((((hB.alloc (by first | exact hB.size | (simp;have:=hB.size;omega)) (.cells #[.int .i64 (p:Nat),.int .i64 (q:Nat)] 50)).alloc (by first | exact hB.size | (simp;have:=hB.size;omega)) (.cells #[.int .i64 0,.int .i64 0,.int .u8 0] 83)).alloc (by first | exact hB.size | (simp;have:=hB.size;omega)) (.cells #[.int .i64 (p:Nat),.int .i64 (q:Nat),.string ⟨#[102,97,108,115,101]⟩] 52)).alloc (by first | exact hB.size | (simp;have:=hB.size;omega)) (.cells #[.int .i64 0,.int .i64 0,.int .u64 0] 87)).alloc (by first | exact hB.size | (simp;have:=hB.size;omega)) (.cells #[.int .i64 0,.int .i64 0,.string ⟨#[]⟩] 90)).drew⟩)) ?_
  repeat
    (first
      | (refine SureL.no (by rfl) ?_;simp only [Act.put,List.setIfInBounds_toArray,List.set_cons_zero,List.set_cons_succ])
      | (refine' SureL.yes (by rfl) (fun wS hS=>?_) ?_
         rotate_left
         · have hS':=(SE.out _).1 hS
           obtain ⟨hk,hs,ht,hB⟩:=hS'
           obtain ⟨x0,x1,x2,x3,x4⟩:=cl5 hk
           obtain ⟨y0,y1⟩:=cl2 hs
           obtain ⟨z0,z1,z2⟩:=cl3 ht
           go_simp
           first
             | exact ⟨rfl,hS⟩
             | (go_at_call 21;refine (val_false _ _ _).mono ?_;rintro e w' ⟨rfl,hb⟩;exact ⟨rfl,(SE.out _).2 ⟨hk.below hb hk.lt,hs.below hb hs.lt,ht.below hb ht.lt,keepb hB hb⟩⟩)
             | (go_at_call 38;refine (value_false _ _ _).mono ?_;rintro e w' ⟨rfl,hb⟩;exact ⟨rfl,(SE.out _).2 ⟨hk.below hb hk.lt,hs.below hb hs.lt,ht.below hb ht.lt,keepb hB hb⟩⟩)
         simp only [Act.put,List.setIfInBounds_toArray,List.set_cons_zero,List.set_cons_succ]))
  refine SureL.nil ?_
  intro wF hF
  obtain ⟨hk,hs,ht,hB⟩:=(SE.out _).1 hF
  clear hF SE hk5 hs5 ht5
  obtain ⟨x0,x1,x2,x3,x4⟩:=cl5 hk
  obtain ⟨y0,y1⟩:=cl2 hs
  obtain ⟨z0,z1,z2⟩:=cl3 ht
  go_wp2_with fail
  go_ret
  exact ⟨rfl,hB⟩
end Go.Proofs.YtgmholdkdppbmaaGreatDoor.Lx

namespace Go.Proofs.YtgmholdkdppbmaaGreatDoor.Lx
open Go.RowKit Go.Shelf
attribute [local go_sem] SGives_value SGives_skip SGives_enter
def TermOk (t:Tok):Prop:=∀ l,t.k = .term l → l = [110,117,108,108] ∨ l = [116,114,117,101] ∨ l = [102,97,108,115,101]
theorem word_three {c:UInt8} (h:wordOf c ≠ []):wordOf c = [110,117,108,108] ∨ wordOf c = [116,114,117,101] ∨ wordOf c = [102,97,108,115,101]:=by
  unfold wordOf at h ⊢
  by_cases h1:c = 110
  · exact .inl (if_pos h1)
  · rw [if_neg h1] at h ⊢
    by_cases h2:c = 116
    · exact .inr (.inl (if_pos h2))
    · rw [if_neg h2] at h ⊢
      by_cases h3:c = 102
      · exact .inr (.inr (if_pos h3))
      · rw [if_neg h3] at h;exact absurd rfl h
theorem item_term {fl:List UInt8 → Option Nat} {s:List UInt8} {en:Bool} {i:Nat} {t:Tok} {tq:Nat} (h:item fl s en i = .tok t tq):TermOk t:=by
  unfold item at h
  by_cases h1:blankB (s.getD i 0) = true
  · rw [if_pos h1] at h;cases h
  rw [if_neg h1] at h
  by_cases h2:markB (s.getD i 0) = true
  · rw [if_pos h2] at h;injection h with h _;subst h;intro l hl;cases hl
  rw [if_neg h2] at h
  by_cases h3:wordOf (s.getD i 0) ≠ []
  · rw [if_pos h3] at h
    unfold wordI at h
    by_cases h4:cpl (wordOf (s.getD i 0)) (s.drop i) < (wordOf (s.getD i 0)).length
    · rw [if_pos h4] at h
      split at h <;> cases h
    · rw [if_neg h4] at h
      injection h with h _
      subst h
      intro l hl
      injection hl with hl
      rw [← hl]
      exact word_three h3
  rw [if_neg h3] at h
  by_cases h5:s.getD i 0 = 34
  · rw [if_pos h5] at h
    unfold txtI at h
    split at h
    · injection h with h _;subst h;intro l hl;cases hl
    · cases h
    · cases h
  rw [if_neg h5] at h
  split at h
  · cases h
  unfold numI at h
  split at h
  · cases h
  split at h
  · cases h
  split at h
  · cases h
  · injection h with h _;subst h;intro l hl;cases hl
theorem rd_term (fl:List UInt8 → Option Nat) (s:List UInt8) (en:Bool) (i:Nat):∀ t ∈ (rdF fl s en i).toks,TermOk t:=by
  generalize hn:s.length - i = n
  induction n using Nat.strongRecOn generalizing i with
  | ind n ih =>
    by_cases hl:i < s.length
    · rw [rdF,dif_pos hl]
      cases hT:item fl s en i with
      | skip=>exact ih _ (by omega) (i + 1) rfl
      | tok t tq =>
        intro x hx
        rcases List.mem_cons.1 hx with rfl | hx
        · exact item_term hT
        · exact ih _ (by omega) (i + (tq - i - 1) + 1) rfl x hx
      | bad no p f=>intro x hx;cases hx
      | cut=>intro x hx;simp only [] at hx;split at hx <;> cases hx
    · rw [rdF,dif_neg hl];intro x hx;cases hx
theorem rd_len (fl:List UInt8 → Option Nat) (s:List UInt8) (en:Bool) (i:Nat):(rdF fl s en i).toks.length ≤ s.length - i:=by
  generalize hn:s.length - i = n
  induction n using Nat.strongRecOn generalizing i with
  | ind n ih =>
    by_cases hl:i < s.length
    · rw [rdF,dif_pos hl]
      cases hT:item fl s en i with
      | skip=>have:=ih _ (by omega) (i + 1) rfl;simp only [];omega
      | tok t tq =>
        have:=ih _ (by omega) (i + (tq - i - 1) + 1) rfl
        simp only [Ot.cons,List.length_cons]
        omega
      | bad no p f=>simp
      | cut=>simp only [];split <;> simp
    · rw [rdF,dif_neg hl];simp
theorem refO_len (s:List UInt8) (en:Bool):(refO s en).toks.length ≤ s.length:=by
  have h1:=rd_len flP s en 0
  have h2:=rd_len flP (s.take 16777216) false 0
  have h3:(s.take 16777216).length ≤ s.length:=by rw [List.length_take];omega
  unfold refO
  split
  · omega
  · split
    · simp only [];omega
    · omega
theorem refO_term (s:List UInt8) (en:Bool):∀ t ∈ (refO s en).toks,TermOk t:=by
  unfold refO
  split
  · exact rd_term _ _ _ _
  · split
    · exact rd_term flP (s.take 16777216) false 0
    · exact rd_term _ _ _ _
theorem same_any (t:Tok) (ht:TermOk t) (w:World):Calls Tryz.prog 25 #[tokV t,.agg (tokR t).toArray] w fun e w'=>e = .returned (.bool true) ∧ Below w.heap.size w w':=by
  obtain ⟨p,q,k⟩:=t
  cases k with
  | mark c=>exact same_mark p q c w
  | num b=>exact same_num p q b w
  | str l=>exact same_str p q l w
  | term l =>
    rcases ht l rfl with rfl | rfl | rfl
    · exact same_null p q w
    · exact same_true p q w
    · exact same_false p q w
theorem flat5:∀ (toks:List Tok) (i:Nat) (t:Tok),toks[i]? = some t → ∀ j,j < 5 → (toks.flatMap tokR)[i * 5 + j]? = (tokR t)[j]?
  | [],i,t,h,j,hj=>by simp at h
  | a :: l,0,t,h,j,hj=>by
    simp at h;subst h
    rw [List.flatMap_cons,List.getElem?_append_left (by rw [tokR_len];omega)]
    simp
  | a :: l,i + 1,t,h,j,hj=>by
    rw [List.flatMap_cons,List.getElem?_append_right (by rw [tokR_len];omega),tokR_len,show (i + 1) * 5 + j - 5 = i * 5 + j by omega]
    exact flat5 l i t (by simpa using h) j hj
theorem tok_cells {t:Tok}:∃ a b c d e,tokR t = [a,b,c,d,e]:=by
  unfold tokR
  cases t.k <;> exact ⟨_,_,_,_,_,rfl⟩
theorem row5 {w:World} {B g cap:Nat} {toks:List Tok} (h:w.ownsRow B 60 5 (.slice (some ⟨g,0,none⟩) toks.length cap) toks.length (toks.flatMap tokR)) {i:Nat} {t:Tok} (ht:toks[i]? = some t) {a b c d e:Value} (hr:tokR t = [a,b,c,d,e]) :
    w.cell? ⟨g,i * 5,none⟩ = some a ∧ w.cell? ⟨g,i * 5 + 1,none⟩ = some b ∧ w.cell? ⟨g,i * 5 + 2,none⟩ = some c ∧ w.cell? ⟨g,i * 5 + 3,none⟩ = some d ∧ w.cell? ⟨g,i * 5 + 4,none⟩ = some e:=by
  have hi:i < toks.length:=(List.getElem?_eq_some_iff.1 ht).1
  have k:∀ j,j < 5 → w.cell? ⟨g,i * 5 + j,none⟩ = (tokR t)[j]?:=fun j hj=>by rw [h.cellAt _ (by omega),flat5 toks i t ht j hj]
  rw [hr] at k
  exact ⟨k 0 (by omega),k 1 (by omega),k 2 (by omega),k 3 (by omega),k 4 (by omega)⟩
set_option maxRecDepth 100000 in
set_option maxHeartbeats 4000000 in
theorem row_yes (v1 v2:Value) (B1 B2:Nat) (toks:List Tok) (w:World) (h1:w.ownsRow B1 35 1 v1 toks.length (toks.map tokV)) (h2:w.ownsRow B2 60 5 v2 toks.length (toks.flatMap tokR)) (ht:∀ t ∈ toks,TermOk t) (hn:toks.length ≤ 1000000000000) :
    Calls Tryz.prog 28 #[v1,v2] w fun e w'=>e = .returned (.bool true) ∧ Below w.heap.size w w':=by
  obtain ⟨A1,c1,rfl,_⟩:=own_shape9 h1
  obtain ⟨A2,c2,rfl,_⟩:=own_shape9 h2
  obtain ⟨n,hnn⟩:∃ n,toks.length = n:=⟨_,rfl⟩
  have H1:=Lib.hid h1
  have H2:=Lib.hid h2
  have HT:=Lib.hid ht
  have HNN:=Lib.hid hnn
  rw [hnn] at hn ⊢
  have e0:((n:Int) != (n:Int)) = false:=by simp
  clear h1 h2 ht hnn
  have hnI:(n:Int) ≤ 1000000000000:=by omega
  go_enter Tryz.func28,Tryz.ntmps28
  go_wp2_with fail
  go_loopw [5] (fun i wr=>∃ k:Nat,i = .int .i64 (k:Nat) ∧ k ≤ n ∧ Below w.heap.size w wr) (fun i _=>n - (intOf i).toNat)
  case atStart=>exact ⟨0,rfl,by omega,Below.refl _ _⟩
  case round =>
    obtain ⟨k,rfl,hk,hbe⟩:=hrel
    have HBE:=Lib.hid hbe
    clear hbe
    rcases Nat.lt_or_ge k n with hlt | hge
    · obtain ⟨t,ht⟩:∃ t,toks[k]? = some t:=⟨_,List.getElem?_eq_getElem (by rw [HNN.out];exact hlt)⟩
      have htm:=HT.out t (List.mem_of_getElem? ht)
      obtain ⟨a,b,c,d,e,hr⟩:=tok_cells (t:=t)
      have HS:=Lib.hid (fun W=>same_any t htm W)
      rw [hr] at HS
      obtain ⟨g1,d1,hv1,hg1,_⟩:=H1.out.form (by rw [HNN.out];omega)
      obtain ⟨g2,d2,hv2,hg2,_⟩:=H2.out.form (by rw [HNN.out];omega)
      injection hv1 with hA1 _ hc1
      injection hv2 with hA2 _ hc2
      subst hA1 hA2 hc1 hc2
      have HC:=Lib.hid (fun (W:World) (hW:Below w.heap.size w W)=>row5 (own_below9 H2.out hW) ht hr)
      have HC1:Hid (∀ (W:World) (hW:Below w.heap.size w W),W.cell? ⟨g1,k,none⟩ = some (tokV t)):=Lib.hid (fun W hW=>by
        have h:=own_below9 H1.out hW
        rw [h.cellAt k (by rw [HNN.out];omega),List.getElem?_map,ht];rfl)
      have t1:decide ((k:Int) < (n:Int)) = true:=decide_eq_true (by omega)
      have t1':decide (k < n) = true:=decide_eq_true hlt
      have hkI:(k:Int) < (n:Int):=by omega
      have HLT:=Lib.hid hlt
      generalize tokV t = tv at *
      clear ht htm hr hlt hk hn
      go_wp2_with fail
      obtain ⟨S,SD⟩:∃ S:World → Prop,Go.RowKit.Hid (∀ w':World,S w' ↔ Below w.heap.size w w'):=⟨_,Lib.hid (fun _=>Iff.rfl)⟩
      refine wp_region_sure (S:=S) (by kernel_rfl) (by kernel_rfl) ((SD.out _).2 HBE.out.drew) ?_
      repeat
        (first
          | (refine SureL.no (by rfl) ?_;simp only [Act.put,List.setIfInBounds_toArray,List.set_cons_zero,List.set_cons_succ])
          | (refine' SureL.yes (by rfl) (fun wS hS=>?_) ?_
             rotate_left
             · have hS':=(SD.out _).1 hS
               obtain ⟨x0,x1,x2,x3,x4⟩:=HC.out wS hS'
               have y0:=HC1.out wS hS'
               go_simp
               first
                 | exact ⟨rfl,hS⟩
                 | (go_at_call 25;refine (HS.out _).mono ?_;rintro e w' ⟨rfl,hb⟩;exact ⟨rfl,(SD.out _).2 (keepb hS' hb)⟩)
             simp only [Act.put,List.setIfInBounds_toArray,List.set_cons_zero,List.set_cons_succ]))
      refine SureL.nil ?_
      intro wE hE
      have HBB:=Lib.hid ((SD.out _).1 hE)
      clear hE SD
      go_wp2_with fail
      go_roundw
      case rel=>exact ⟨k + 1,by go_num,by have:=HLT.out;omega,HBB.out⟩
      case measure=>have:=HLT.out;simp [intOf];omega
    · have t1:decide ((k:Int) < (n:Int)) = false:=decide_eq_false (by omega)
      have t1':decide (k < n) = false:=decide_eq_false (by omega)
      go_wp2_with fail
      go_ret
      exact ⟨rfl,HBE.out⟩
end Go.Proofs.YtgmholdkdppbmaaGreatDoor.Lx

namespace Go.Proofs.YtgmholdkdppbmaaGreatDoor.Lx
open Go.RowKit Go.Extern.Stop Go.Stop Go.Extern Go.Lib
theorem roomy_cells (bs:List UInt8) (n:Nat) (h:bs.length = n):((bs.map bv ++ (zrow (n + 2)).drop n).toArray.setIfInBounds n (.int .u8 49)).setIfInBounds (n + 1) (.int .u8 93) = ((bs ++ [49,93]).map bv).toArray:=by
  subst h
  have e:(zrow (bs.length + 2)).drop bs.length = [bv 0,bv 0]:=by
    unfold zrow
    rw [List.drop_replicate,show bs.length + 2 - bs.length = 2 by omega];rfl
  rw [e]
  simp
theorem roomy_cell (w:World) (g:Nat) (bs:List UInt8) (n:Nat) (h:bs.length = n) (hb:Blk w g 5 (bs.map bv ++ (zrow (n + 2)).drop n).toArray) :
    w.cell? ⟨g,n,none⟩ = some (bv 0) ∧ w.cell? ⟨g,n + 1,none⟩ = some (bv 0):=by
  subst h
  have e:(zrow (bs.length + 2)).drop bs.length = [bv 0,bv 0]:=by
    unfold zrow
    rw [List.drop_replicate,show bs.length + 2 - bs.length = 2 by omega];rfl
  rw [e] at hb
  rw [hb.cell,hb.cell]
  simp [List.getElem_append_right]
def RoomB (w:World) (g:Nat) (bs:List UInt8):Prop:=Blk w g 5 ((bs ++ [49,93]).map bv).toArray
theorem RoomB.holds {w:World} {g n:Nat} {bs:List UInt8} (hb:RoomB w g bs) (h:bs.length = n) :
    RB w (g + 1) (some ⟨g,0,none⟩) n bs ∧ w.cell? ⟨g,n,none⟩ = some (.int .u8 49) ∧ w.cell? ⟨g,n + 1,none⟩ = some (.int .u8 93):=by
  subst h
  refine ⟨⟨rfl,fun hn=>⟨g,0,rfl,by omega,fun j hj=>?_⟩⟩,?_,?_⟩
  · rw [Blk.cell hb,Nat.zero_add]
    simp only [List.getElem?_toArray,List.map_append]
    rw [List.getElem?_append_left (by simpa using hj)]
    simp [hj]
  · rw [Blk.cell hb];simp
  · rw [Blk.cell hb];simp [List.getElem?_append_right]
set_option maxRecDepth 100000 in
theorem roomy_any (A:Option Addr) (n c B:Nat) (bs:List UInt8) (w:World) (h:RB w B A n bs) (hB:B ≤ w.heap.size) (hn:n ≤ 140737488355320) :
    Calls Tryz.prog 26 #[.slice A n c] w fun e w' =>
      e = .returned (.slice (some ⟨w.heap.size,0,none⟩) n (n + 2)) ∧ RoomB w' w.heap.size bs ∧ Below w.heap.size w w':=by
  have hmk:=fun W=>make_bytes n (n + 2) (by omega) (by omega) W
  have hl:=h.1
  have HR:=Lib.hid h
  clear h
  have e2:((n + 2:Nat):Int) = (n:Int) + 2:=by omega
  rw [e2] at hmk
  clear e2
  have HL:=Lib.hid hl
  clear hl
  have hnn:(n:Int) + 2 ≤ 140737488355322:=by omega
  go_enter Tryz.func26,Tryz.ntmps26
  go_wp2_with ((with_reducible refine wpList_copyin (o:=⟨some 13,_,_,_,_,_⟩) rfl (.tmp 11) (.tmp 12) rfl w.heap.size n _ _ A rfl rfl B bs (HR.out.below (((Below.refl _ _).alloc (Nat.le_refl _) _).mono hB)) (zrow (n + 2)) (Blk.new w _ _) (by rw [zrow_length];omega) w.heap.size w ((Below.refl _ _).alloc (Nat.le_refl _) _) (Nat.le_refl _) ?_);intro w1 hb1 hbel1;obtain ⟨cn,cn1⟩:=roomy_cell w1 w.heap.size bs n HL.out hb1.out;have fn:=hb1.out.frozen n;have fn1:=hb1.out.frozen (n + 1);have hs1:=hbel1.size)
  go_ret
  refine ⟨rfl,?_,(hbel1.setCell (p:=⟨w.heap.size,n,none⟩) (Nat.le_refl _) _).setCell (p:=⟨w.heap.size,n + 1,none⟩) (Nat.le_refl _) _⟩
  have:=(hb1.out.set1 n (.int .u8 49)).set1 (n + 1) (.int .u8 93)
  rw [roomy_cells bs n HL.out] at this
  exact this
set_option maxRecDepth 100000 in
theorem left_yes (g n c2 B2:Nat) (A2:Option Addr) (bs:List UInt8) (w:World) (h1:RoomB w g bs) (h2:RB w B2 A2 n bs) (hn:n ≤ 1000000000000) :
    Calls Tryz.prog 27 #[.slice (some ⟨g,0,none⟩) n (n + 2),.slice A2 n c2] w fun e w'=>e = .returned (.bool true) ∧ Below w.heap.size w w':=by
  have hl:=h2.1
  obtain ⟨hrb,cn,cn1⟩:=RoomB.holds h1 hl
  have k1:=str_of_RB hrb (n + 2)
  have k2:=str_of_RB h2 c2
  have hnn:(n:Int) ≤ 1000000000000:=by omega
  clear h1 h2 hrb
  go_enter Tryz.func27,Tryz.ntmps27
  go_wp2_with fail
  go_ret
  exact ⟨rfl,Below.refl _ _⟩
end Go.Proofs.YtgmholdkdppbmaaGreatDoor.Lx

namespace Go.Proofs.YtgmholdkdppbmaaGreatDoor.Lx
open Go.RowKit Go.Shelf
theorem ei_leaf:EI Tryz.prog 68 72 .nilIface 16:=⟨Tryz.underlying68,info_parts (by kernel_rfl),rfl,rfl⟩
def leafB (t:Tok):Bool:=match t.k with
  | .mark _=>false
  | _=>true
def leavesL (l:List Tok):List Tok:=l.filter leafB
theorem tok_iface (t:Tok):∃ ty u,tokV t = .iface ty u:=by unfold tokV;cases t.k <;> exact ⟨_,_,rfl⟩
theorem tok_one (t:Tok):(tokV t).oneCell' = true:=by unfold tokV;cases t.k <;> rfl
theorem leaf_yes (t:Tok) (h:leafB t = true) (w:World):(Instr.typeAssert (tokV t) 35 72 true).run Tryz.prog w = .ok (.tuple #[tokV t,.bool true]) w:=by
  obtain ⟨p,q,k⟩:=t
  cases k with
  | mark c=>cases h
  | num b=>exact ts_Num_Leaf p q b w
  | str l=>exact ts_Str_Leaf p q l w
  | term l=>exact ts_Term_Leaf p q l w
theorem leaf_no (t:Tok) (h:leafB t = false) (w:World):(Instr.typeAssert (tokV t) 35 72 true).run Tryz.prog w = .ok (.tuple #[.nilIface,.bool false]) w:=by
  obtain ⟨p,q,k⟩:=t
  cases k with
  | mark c=>exact ts_Mark_Leaf p q c w
  | num b=>cases h
  | str l=>cases h
  | term l=>cases h
def LeafP (bs:List UInt8) (w:World) (e:Ending) (w':World):Prop :=
  Below w.heap.size w w' ∧
  ((refO bs true).no = 0 → ∃ v,e = .returned (.tuple #[v,.nilIface]) ∧ OwnR w' w.heap.size 72 (fun _=>True) v (leavesL (refO bs true).toks).length ((leavesL (refO bs true).toks).map tokV)) ∧
  ((refO bs true).no ≠ 0 → e = .returned (.tuple #[.slice none 0 0,spotE ((refO bs true).no:Nat) ((refO bs true).pos:Nat)]))
set_option maxRecDepth 100000 in
set_option maxHeartbeats 4000000 in
theorem leaves_any (A:Option Addr) (n c B:Nat) (bs:List UInt8) (w:World) (hr:RB w B A n bs) (hB:B ≤ w.heap.size) (hn:n ≤ 1000000000000) :
    Calls Tryz.prog 29 #[.slice A n c] w (LeafP bs w):=by
  have HRW:=Lib.hid (row_any A n c B bs w hr hB hn)
  have hol:=refO_len bs true
  have hbl:=hr.1
  clear hr
  unfold LeafP
  unfold RowP at HRW
  obtain ⟨o,ho⟩:∃ o,refO bs true = o:=⟨_,rfl⟩
  rw [ho] at HRW hol ⊢
  clear ho
  obtain ⟨m,hm⟩:∃ m,o.toks.length = m:=⟨_,rfl⟩
  have hmb:m ≤ 1000000000000:=by omega
  have hmI:(m:Int) ≤ 1000000000000:=by omega
  have HM:=Lib.hid hm
  clear hol hbl hn hm
  go_enter Tryz.func29,Tryz.ntmps29
  go_wp2_with fail
  refine HRW.out.mono ?_
  rintro e w1 ⟨b1,hok,hbad⟩
  by_cases h0:o.no = 0
  · obtain ⟨v,rfl,hrow⟩:=hok h0
    obtain ⟨A1,c1,rfl,_⟩:=own_shape9 hrow
    have H1:=Lib.hid hrow
    have HB1:=Lib.hid b1
    have H0:=Lib.hid h0
    have hs1:=b1.size
    rw [HM.out] at H1
    rw [HM.out]
    clear hok hbad hrow h0 b1
    go_wp2_with fail
    go_loopw [6,21] (fun u k wr=>∃ j:Nat,k = .int .i64 (j:Nat) ∧ j ≤ m ∧ OwnR wr w.heap.size 72 (fun _=>True) u (leavesL (o.toks.take j)).length ((leavesL (o.toks.take j)).map tokV) ∧ wr.ownsRow w.heap.size 35 1 (.slice A1 m c1) m (o.toks.map tokV) ∧ Below w.heap.size w wr) (fun _ k _=>m - (intOf k).toNat)
    case atStart=>exact ⟨0,rfl,by omega,OwnR.nil _ _ _ _,H1.out,HB1.out⟩
    case round =>
      obtain ⟨j,rfl,hj,hu,hrw,hbe⟩:=hrel
      have HU:=Lib.hid hu
      have HRR:=Lib.hid hrw
      have HBE:=Lib.hid hbe
      have hsr:=hbe.size
      clear hu hrw hbe
      rcases Nat.lt_or_ge j m with hlt | hge
      · have hjl:j < o.toks.length:=by rw [HM.out];exact hlt
        obtain ⟨t,ht⟩:∃ t,o.toks[j]? = some t:=⟨_,List.getElem?_eq_getElem hjl⟩
        have hlen:(leavesL (o.toks.take j)).length ≤ j:=by
          have h1:=List.length_filter_le leafB (o.toks.take j)
          rw [List.length_take] at h1
          unfold leavesL
          omega
        have htk:o.toks.take (j + 1) = o.toks.take j ++ [t]:=by
          rw [List.take_add_one,ht];rfl
        obtain ⟨g1,d1,hv1,_,_⟩:=HRR.out.form (by omega)
        injection hv1 with hA1 _ hc1
        subst hA1 hc1
        have hcell:wr.cell? ⟨g1,j,none⟩ = some (tokV t):=by
          rw [HRR.out.cellAt j (by omega),List.getElem?_map,ht];rfl
        have t1:decide ((j:Int) < (m:Int)) = true:=decide_eq_true (by omega)
        have t1':decide (j < m) = true:=decide_eq_true hlt
        have hjI:(j:Int) < (m:Int):=by omega
        have HLT:=Lib.hid hlt
        have HTK:=Lib.hid htk
        have HTO:=Lib.hid (tok_one t)
        cases hlf:leafB t with
        | true =>
          have hta:=leaf_yes t hlf
          have HL2:Hid (leavesL (o.toks.take (j + 1)) = leavesL (o.toks.take j) ++ [t]):=Lib.hid (by rw [htk];unfold leavesL;rw [List.filter_append];simp [hlf])
          obtain ⟨ty,u,htv⟩:=tok_iface t
          have HTV:=Lib.hid htv
          rw [htv] at hta hcell HTO
          obtain ⟨L,hL⟩:∃ L,leavesL (o.toks.take j) = L:=⟨_,rfl⟩
          rw [hL] at HU HL2 hlen
          clear ht htk hlf hlt hj htv hL hjl
          go_wp2_with (at_builtin;refine wpList_app ei_leaf trivial rfl (.tmp 31) (.tmp 33) rfl w.heap.size _ L.length _ rfl (HU.out.below ((Below.refl _ _).alloc (Nat.le_refl _) _)) _ _ _ _ [.iface ty u] rfl (rv_new wr 72 [.iface ty u]) (fun u hu=>by simp at hu;subst hu;exact HTO.out) (show L.length + 1 ≤ _ by omega) (show (L.length + 1) * 16 ≤ _ by omega) (Nat.le_trans hsr (by simp)) ?_;intro A2 c2 w2 hu2 hg2 ha2)
          have hR0:=own_below9 HRR.out ((Below.refl _ wr).alloc (Nat.le_refl _) (.cells #[.iface ty u] 72))
          have hU0:=HU.out.below ((Below.refl _ wr).alloc (Nat.le_refl _) (.cells #[.iface ty u] 72))
          have hR2:=hR0.kept hg2 (.inr (fun e=>own_typed hR0 hU0.own (by decide) g1 rfl e.symm))
          have hB2:Below w.heap.size w w2:=(HBE.out.alloc hsr _).grown hg2 (Nat.le_trans hsr (by simp)) (fun k' hk'=>(hU0.lt k' hk').1)
          go_roundw
          case rel =>
            refine ⟨j + 1,by go_num,by have:=HLT.out;omega,?_,hR2,hB2⟩
            rw [HL2.out,List.length_append,List.map_append]
            simp only [List.map_cons,List.map_nil,HTV.out]
            exact hu2
          case measure=>have:=HLT.out;simp [intOf];omega
        | false =>
          have hta:=leaf_no t hlf
          have HL2:Hid (leavesL (o.toks.take (j + 1)) = leavesL (o.toks.take j)):=Lib.hid (by rw [htk];unfold leavesL;rw [List.filter_append];simp [hlf])
          obtain ⟨tv,htv⟩:∃ tv,tokV t = tv:=⟨_,rfl⟩
          rw [htv] at hta hcell
          clear ht htk hlf hlt hj htv hlen hjl
          go_wp2_with fail
          go_roundw
          case rel =>
            refine ⟨j + 1,by go_num,by have:=HLT.out;omega,?_,HRR.out,HBE.out⟩
            rw [HL2.out];exact HU.out
          case measure=>have:=HLT.out;simp [intOf];omega
      · have hjm:j = m:=by omega
        subst hjm
        have t1:decide ((j:Int) < (j:Int)) = false:=by simp
        have HAL:Hid (o.toks.take j = o.toks):=Lib.hid (List.take_of_length_le (by rw [HM.out];exact Nat.le_refl _))
        obtain ⟨A2,c2,rfl,_⟩:=HU.out.shape
        go_wp2_with fail
        go_ret2
        refine ⟨HBE.out,fun _=>⟨_,rfl,?_⟩,fun h=>absurd H0.out h⟩
        show OwnR wr w.heap.size 72 (fun _=>True) (.slice A2 (leavesL (o.toks.take j)).length c2) (leavesL o.toks).length ((leavesL o.toks).map tokV)
        have h2:=HU.out
        rw [HAL.out] at h2 ⊢
        exact h2
  · obtain rfl:=hbad h0
    have HB1:=Lib.hid b1
    have H0:=Lib.hid h0
    clear hok hbad h0 b1
    go_wp2_with fail
    go_ret2
    exact ⟨HB1.out,fun h=>absurd h H0.out,fun _=>rfl⟩
end Go.Proofs.YtgmholdkdppbmaaGreatDoor.Lx

namespace Go.Proofs.YtgmholdkdppbmaaGreatDoor.Lx
def Md.sh (d:Nat):Md → Md
  | .out=>.out
  | .num fr st raw=>.num (fr + d) st raw
  | .word fr raw=>.word (fr + d) raw
  | .txt fr a b=>.txt (fr + d) a b
  | .esc fr a=>.esc (fr + d) a
  | .dig fr a n c h=>.dig (fr + d) a n c h
  | .sla fr a h=>.sla (fr + d) a h
  | .leu fr a h=>.leu (fr + d) a h
def Tok.sh (d:Nat) (t:Tok):Tok:=⟨t.pos + d,t.size,t.k⟩
def Rs.sh (d:Nat):Rs → Rs
  | .go m t=>.go (m.sh d) (t.map (Tok.sh d))
  | .bad no p t=>.bad no (p + d) (t.map (Tok.sh d))
theorem Rs.sh_cons (d:Nat) (t:Tok) (r:Rs):(r.cons t).sh d = (r.sh d).cons (t.sh d):=by cases r <;> rfl
theorem outS_sh (p d:Nat) (c:UInt8):outS (p + d) c = (outS p c).sh d:=by
  unfold outS
  split
  · rfl
  split
  · rfl
  split
  · rfl
  split
  · rfl
  split
  · rfl
  · rfl
theorem whole_sh (d fr:Nat) (a:List UInt8) (c h:Nat):wholeS (fr + d) a c h = (wholeS fr a c h).sh d:=by
  unfold wholeS
  split
  · rfl
  split <;> rfl
theorem step_sh (fl:List UInt8 → Option Nat) (p d:Nat) (m:Md) (c:UInt8):step fl (p + d) (m.sh d) c = (step fl p m c).sh d:=by
  cases m with
  | out=>exact outS_sh p d c
  | num fr st raw =>
    simp only [Md.sh,step]
    cases nxt st c with
    | some st'=>rfl
    | none =>
      simp only []
      split
      · cases fl raw with
        | some b=>rw [outS_sh,Rs.sh_cons];simp only [Tok.sh];rw [show p + d - (fr + d) = p - fr by omega]
        | none=>rfl
      · rfl
  | word fr raw =>
    simp only [Md.sh,step]
    split
    · split
      · simp only [Rs.sh,Md.sh,List.map_cons,List.map_nil,Tok.sh]
        rw [show p + d + 1 - (fr + d) = p + 1 - fr by omega]
      · rfl
    · rfl
  | txt fr a b =>
    simp only [Md.sh,step]
    split
    · simp only [Rs.sh,Md.sh,List.map_cons,List.map_nil,Tok.sh]
      rw [show p + d + 1 - (fr + d) = p + 1 - fr by omega]
    split
    · rfl
    split
    · rfl
    cases tk b c <;> rfl
  | esc fr a =>
    simp only [Md.sh,step]
    split
    · rfl
    cases simp1 c <;> rfl
  | dig fr a n k h =>
    simp only [Md.sh,step]
    cases hexv c with
    | none=>simp only [];split <;> rfl
    | some v =>
      simp only []
      split
      · rfl
      split
      · rw [whole_sh];rfl
      · rfl
  | sla fr a h =>
    simp only [Md.sh,step]
    split <;> rfl
  | leu fr a h =>
    simp only [Md.sh,step]
    split <;> rfl
theorem step_in (fl:List UInt8 → Option Nat) (p:Nat) (m0:Md) (c:UInt8) (h:frM m0 = some 0) :
    (∃ m1,step fl p m0 c = .go m1 [] ∧ frM m1 = some 0) ∨ (∃ k,step fl p m0 c = .go .out [⟨0,p + 1,k⟩]) ∨
    (∃ k,endM fl p m0 = ([⟨0,p,k⟩],0,0) ∧ step fl p m0 c = (outS p c).cons ⟨0,p,k⟩) ∨ (∃ no q,step fl p m0 c = .bad no q []):=by
  cases m0 with
  | out=>cases h
  | num fr st raw =>
    have hf:fr = 0:=by simpa [frM] using h
    subst hf
    simp only [step,endM]
    cases nxt st c with
    | some st'=>exact .inl ⟨_,rfl,rfl⟩
    | none =>
      simp only []
      split
      · cases fl raw with
        | some b=>exact .inr (.inr (.inl ⟨.num b,rfl,rfl⟩))
        | none=>exact .inr (.inr (.inr ⟨_,_,rfl⟩))
      · exact .inr (.inr (.inr ⟨_,_,rfl⟩))
  | word fr raw =>
    have hf:fr = 0:=by simpa [frM] using h
    subst hf
    simp only [step]
    split
    · split
      · exact .inr (.inl ⟨_,rfl⟩)
      · exact .inl ⟨_,rfl,rfl⟩
    · exact .inr (.inr (.inr ⟨_,_,rfl⟩))
  | txt fr a b =>
    have hf:fr = 0:=by simpa [frM] using h
    subst hf
    simp only [step]
    split
    · exact .inr (.inl ⟨_,rfl⟩)
    split
    · exact .inl ⟨_,rfl,rfl⟩
    split
    · exact .inr (.inr (.inr ⟨_,_,rfl⟩))
    cases tk b c with
    | some x=>exact .inl ⟨_,rfl,rfl⟩
    | none=>exact .inr (.inr (.inr ⟨_,_,rfl⟩))
  | esc fr a =>
    have hf:fr = 0:=by simpa [frM] using h
    subst hf
    simp only [step]
    split
    · exact .inl ⟨_,rfl,rfl⟩
    cases simp1 c with
    | some x=>exact .inl ⟨_,rfl,rfl⟩
    | none=>exact .inr (.inr (.inr ⟨_,_,rfl⟩))
  | dig fr a n k hh =>
    have hf:fr = 0:=by simpa [frM] using h
    subst hf
    simp only [step]
    cases hexv c with
    | none=>simp only [];split <;> exact .inr (.inr (.inr ⟨_,_,rfl⟩))
    | some v =>
      simp only []
      split
      · exact .inr (.inr (.inr ⟨_,_,rfl⟩))
      split
      · refine .inl ⟨_,rfl,?_⟩
        unfold wholeS
        split
        · rfl
        split <;> rfl
      · exact .inl ⟨_,rfl,rfl⟩
  | sla fr a hh =>
    have hf:fr = 0:=by simpa [frM] using h
    subst hf
    simp only [step]
    split
    · exact .inl ⟨_,rfl,rfl⟩
    · exact .inr (.inr (.inr ⟨_,_,rfl⟩))
  | leu fr a hh =>
    have hf:fr = 0:=by simpa [frM] using h
    subst hf
    simp only [step]
    split
    · exact .inl ⟨_,rfl,rfl⟩
    · exact .inr (.inr (.inr ⟨_,_,rfl⟩))
theorem out_in (c:UInt8):(∀ p,outS p c = .go .out []) ∨ (∃ k,∀ p,outS p c = .go .out [⟨p,1,k⟩]) ∨ (∃ m1,frM m1 = some 0 ∧ ∀ p,outS p c = .go (m1.sh p) []) ∨ (∀ p,outS p c = .bad 94 p []):=by
  unfold outS
  split
  · exact .inl fun _=>rfl
  split
  · exact .inr (.inl ⟨_,fun _=>rfl⟩)
  split
  · exact .inr (.inr (.inl ⟨.txt 0 [] [],rfl,fun p=>by simp [Md.sh]⟩))
  split
  · exact .inr (.inr (.inl ⟨.num 0 ((nxt 0 c).getD 0) [c],rfl,fun p=>by simp [Md.sh]⟩))
  split
  · exact .inr (.inr (.inl ⟨.word 0 [c],rfl,fun p=>by simp [Md.sh]⟩))
  · exact .inr (.inr (.inr fun _=>rfl))
def Al (fl:List UInt8 → Option Nat) (s:List UInt8) (t:Tok):Prop :=
  t.pos + t.size ≤ s.length ∧ (run fl 0 .out ((s.drop t.pos).take t.size)).shut fl t.size = ⟨[⟨0,t.size,t.k⟩],0,0,0,0⟩
def Sn (fl:List UInt8 → Option Nat) (pre:List UInt8) (m:Md):Prop :=
  m = .out ∨ ∃ fr m0,m = m0.sh fr ∧ fr < pre.length ∧ frM m0 = some 0 ∧ run fl 0 .out (pre.drop fr) = ⟨[],.inl m0⟩
theorem run1 (fl:List UInt8 → Option Nat) (p:Nat) (m:Md) (c:UInt8):run fl p m [c] = match step fl p m c with
    | .go m' t=>⟨t,.inl m'⟩
    | .bad no q t=>⟨t,.inr (no,q,p)⟩:=by
  cases h:step fl p m c with
  | go m' t=>rw [run_go _ h];simp [run,Rn.pre]
  | bad no q t=>rw [run_bad _ h]
theorem take_pre {pre rest:List UInt8} {fr:Nat} (h:fr ≤ pre.length):((pre ++ rest).drop fr).take (pre.length - fr) = pre.drop fr:=by
  rw [List.drop_append_of_le_length h,List.take_append_of_le_length (by simp),List.take_of_length_le (by simp)]
theorem al_of {fl:List UInt8 → Option Nat} {pre rest:List UInt8} {fr:Nat} {k:Tk} (h:fr ≤ pre.length) (hr:(run fl 0 .out (pre.drop fr)).shut fl (pre.length - fr) = ⟨[⟨0,pre.length - fr,k⟩],0,0,0,0⟩):Al fl (pre ++ rest) ⟨fr,pre.length - fr,k⟩:=by
  refine ⟨by simp;omega,?_⟩
  simp only []
  rw [take_pre h]
  exact hr
theorem out_sn (fl:List UInt8 → Option Nat) (pre rest:List UInt8) (c:UInt8) {m':Md} {t:List Tok} (h:outS pre.length c = .go m' t):Sn fl (pre ++ [c]) m' ∧ ∀ x ∈ t,Al fl (pre ++ c :: rest) x:=by
  have hd:(pre ++ [c]).drop pre.length = [c]:=by simp
  have he:pre ++ c :: rest = (pre ++ [c]) ++ rest:=by simp
  rcases out_in c with h1 | ⟨k,h1⟩ | ⟨m1,h0,h1⟩ | h1
  · rw [h1] at h
    cases h
    exact ⟨.inl rfl,fun x hx=>by cases hx⟩
  · rw [h1] at h
    cases h
    refine ⟨.inl rfl,fun x hx=>?_⟩
    rw [List.mem_singleton] at hx
    subst hx
    have:=al_of (fl:=fl) (pre:=pre ++ [c]) (rest:=rest) (fr:=pre.length) (k:=k) (by simp) (by
      rw [hd,run1]
      simp only [step,h1,List.length_append,List.length_singleton,Nat.add_sub_cancel_left]
      simp [Rn.shut,endM])
    rw [he]
    simpa using this
  · rw [h1] at h
    cases h
    refine ⟨.inr ⟨pre.length,m1,rfl,by simp,h0,?_⟩,fun x hx=>by cases hx⟩
    rw [hd,run1]
    simp only [step,h1]
    have:m1.sh 0 = m1:=by cases m1 <;> rfl
    rw [this]
  · rw [h1] at h
    cases h
theorem out_bad {p no q:Nat} {c:UInt8} {t:List Tok} (h:outS p c = .bad no q t):t = []:=by
  rcases out_in c with h1 | ⟨k,h1⟩ | ⟨m1,h0,h1⟩ | h1 <;> rw [h1] at h <;> cases h
  rfl
theorem step_al (fl:List UInt8 → Option Nat) (pre rest:List UInt8) (m:Md) (c:UInt8) (hs:Sn fl pre m) :
    (∀ m' t,step fl pre.length m c = .go m' t → Sn fl (pre ++ [c]) m' ∧ ∀ x ∈ t,Al fl (pre ++ c :: rest) x) ∧ (∀ no q t,step fl pre.length m c = .bad no q t → ∀ x ∈ t,Al fl (pre ++ c :: rest) x):=by
  rcases hs with rfl | ⟨fr,m0,rfl,hfr,h0,hr⟩
  · refine ⟨fun m' t h=>out_sn fl pre rest c h,fun no q t h x hx=>?_⟩
    rw [out_bad h] at hx
    cases hx
  obtain ⟨p,hp⟩:∃ p,pre.length = p + fr:=⟨pre.length - fr,by omega⟩
  have hdl:(pre.drop fr).length = p:=by simp;omega
  have hdc:(pre ++ [c]).drop fr = pre.drop fr ++ [c]:=List.drop_append_of_le_length (by omega)
  have he:pre ++ c :: rest = (pre ++ [c]) ++ rest:=by simp
  have hrc:run fl 0 .out (pre.drop fr ++ [c]) = run fl p m0 [c]:=by
    rw [run_append,hr]
    simp only []
    rw [hdl,Nat.zero_add]
    exact Rn.pre_nil _
  rcases step_in fl p m0 c h0 with ⟨m1,h1,h2⟩ | ⟨k,h1⟩ | ⟨k,h1,h2⟩ | ⟨no,q,h1⟩
  · have hst:step fl pre.length (m0.sh fr) c = .go (m1.sh fr) []:=by rw [hp,step_sh,h1];rfl
    refine ⟨fun m' t h=>?_,fun no q t h=>?_⟩
    · rw [hst] at h
      cases h
      refine ⟨.inr ⟨fr,m1,rfl,by simp;omega,h2,?_⟩,fun x hx=>by cases hx⟩
      rw [hdc,hrc,run1,h1]
    · rw [hst] at h;cases h
  · have hst:step fl pre.length (m0.sh fr) c = .go .out [⟨fr,p + 1,k⟩]:=by rw [hp,step_sh,h1];simp [Rs.sh,Md.sh,Tok.sh]
    refine ⟨fun m' t h=>?_,fun no q t h=>?_⟩
    · rw [hst] at h
      cases h
      refine ⟨.inl rfl,fun x hx=>?_⟩
      rw [List.mem_singleton] at hx
      subst hx
      have hpc:(pre ++ [c]).length - fr = p + 1:=by simp;omega
      have:=al_of (fl:=fl) (pre:=pre ++ [c]) (rest:=rest) (fr:=fr) (k:=k) (by simp;omega) (by
        rw [hpc,hdc,hrc,run1,h1]
        simp [Rn.shut,endM])
      rw [he]
      rw [hpc] at this
      exact this
    · rw [hst] at h;cases h
  · have hal:Al fl (pre ++ c :: rest) ⟨fr,p,k⟩:=by
      have hpc:pre.length - fr = p:=by omega
      have:=al_of (fl:=fl) (pre:=pre) (rest:=c :: rest) (fr:=fr) (k:=k) (by omega) (by
        rw [hpc,hr]
        simp [Rn.shut,h1])
      rw [hpc] at this
      exact this
    have hst:step fl pre.length (m0.sh fr) c = (outS pre.length c).cons ⟨fr,p,k⟩:=by
      rw [hp,step_sh,h2,Rs.sh_cons,← outS_sh];simp [Tok.sh]
    refine ⟨fun m' t h=>?_,fun no q t h=>?_⟩
    · rw [hst] at h
      cases ho:outS pre.length c with
      | bad no q t=>rw [ho] at h;cases h
      | go m2 t2 =>
        rw [ho] at h
        cases h
        obtain ⟨g1,g2⟩:=out_sn fl pre rest c ho
        refine ⟨g1,fun x hx=>?_⟩
        rcases List.mem_cons.1 hx with hx | hx
        · subst hx;exact hal
        · exact g2 x hx
    · rw [hst] at h
      cases ho:outS pre.length c with
      | go m2 t2=>rw [ho] at h;cases h
      | bad no2 q2 t2 =>
        have:=out_bad ho
        subst this
        rw [ho] at h
        cases h
        intro x hx
        rcases List.mem_cons.1 hx with hx | hx
        · subst hx;exact hal
        · cases hx
  · have hst:step fl pre.length (m0.sh fr) c = .bad no (q + fr) []:=by rw [hp,step_sh,h1];rfl
    refine ⟨fun m' t h=>?_,fun no q t h=>?_⟩
    · rw [hst] at h;cases h
    · rw [hst] at h;cases h;intro x hx;cases hx
theorem run_al (fl:List UInt8 → Option Nat):∀ (rest pre:List UInt8) (m:Md),Sn fl pre m →
    (∀ x ∈ (run fl pre.length m rest).toks,Al fl (pre ++ rest) x) ∧ (∀ m',(run fl pre.length m rest).fin = .inl m' → Sn fl (pre ++ rest) m')
  | [],pre,m,h=>by
    refine ⟨fun x hx=>(by simp [run] at hx),fun m' hm=>?_⟩
    simp only [run] at hm
    cases hm
    simpa using h
  | c :: rest,pre,m,h=>by
    obtain ⟨h1,h2⟩:=step_al fl pre rest m c h
    cases hs:step fl pre.length m c with
    | bad no q t =>
      rw [run_bad _ hs]
      exact ⟨h2 no q t hs,fun m' hm=>by cases hm⟩
    | go m1 t =>
      obtain ⟨g1,g2⟩:=h1 m1 t hs
      have hl:(pre ++ [c]).length = pre.length + 1:=by simp
      obtain ⟨k1,k2⟩:=run_al fl rest (pre ++ [c]) m1 g1
      rw [run_go _ hs]
      rw [hl,List.append_assoc] at k1 k2
      refine ⟨fun x hx=>?_,k2⟩
      rcases List.mem_append.1 hx with hx | hx
      · exact g2 x hx
      · exact k1 x hx
theorem end_al (fl:List UInt8 → Option Nat) (s:List UInt8) (m:Md) (h:Sn fl s m):∀ x ∈ (endM fl s.length m).1,Al fl s x:=by
  rcases h with rfl | ⟨fr,m0,rfl,hfr,h0,hr⟩
  · intro x hx;cases hx
  cases m0 with
  | out=>cases h0
  | num f st raw =>
    have hf:f = 0:=by simpa [frM] using h0
    subst hf
    intro x hx
    simp only [Md.sh,endM] at hx
    split at hx
    · rename_i he
      cases hb:fl raw with
      | none=>rw [hb] at hx;cases hx
      | some b =>
        rw [hb] at hx
        simp only [List.mem_singleton] at hx
        subst hx
        have:=al_of (fl:=fl) (pre:=s) (rest:=[]) (fr:=fr) (k:=.num b) (by omega) (by
          rw [hr]
          simp [Rn.shut,endM,he,hb])
        simpa using this
    · cases hx
  | _=>intro x hx;cases hx
theorem shut_al (fl:List UInt8 → Option Nat) (s:List UInt8):∀ x ∈ ((run fl 0 .out s).shut fl s.length).toks,Al fl s x:=by
  obtain ⟨h1,h2⟩:=run_al fl s [] .out (.inl rfl)
  simp only [List.length_nil,List.nil_append] at h1 h2
  intro x hx
  rcases hr:run fl 0 .out s with ⟨l,f⟩
  rw [hr] at h1 h2 hx
  cases f with
  | inr y=>exact h1 x hx
  | inl m =>
    rcases List.mem_append.1 hx with hx | hx
    · exact h1 x hx
    · exact end_al fl s m (h2 m rfl) x hx
def Rise (s:List UInt8):Nat → List Tok → Prop
  | a,[]=>∀ j,a ≤ j → j < s.length → blankB (s.getD j 0) = true
  | a,t :: l=>a ≤ t.pos ∧ t.pos + t.size ≤ s.length ∧ 0 < t.size ∧ (∀ j,a ≤ j → j < t.pos → blankB (s.getD j 0) = true) ∧ Rise s (t.pos + t.size) l
theorem Rise.skip {s:List UInt8} {i:Nat} {l:List Tok} (hb:blankB (s.getD i 0) = true) (h:Rise s (i + 1) l):Rise s i l:=by
  cases l with
  | nil =>
    intro j h1 h2
    rcases Nat.eq_or_lt_of_le h1 with rfl | h3
    · exact hb
    · exact h j (by omega) h2
  | cons t l =>
    obtain ⟨h1,h2,h3,h4,h5⟩:=h
    refine ⟨by omega,h2,h3,fun j k1 k2=>?_,h5⟩
    rcases Nat.eq_or_lt_of_le k1 with rfl | k3
    · exact hb
    · exact h4 j (by omega) k2
theorem item_skip {fl:List UInt8 → Option Nat} {s:List UInt8} {en:Bool} {i:Nat} (h:item fl s en i = .skip):blankB (s.getD i 0) = true:=by
  unfold item at h
  split at h
  · assumption
  · exfalso
    repeat' split at h
    all_goals first
      | (cases h;done)
      | (unfold wordI at h;(repeat' split at h) <;> cases h;done)
      | (unfold txtI at h;(repeat' split at h) <;> cases h;done)
      | (unfold numI at h;(repeat' split at h) <;> cases h;done)
      | (revert h;simp only [wordI,txtI,numI];intro h;(repeat' split at h) <;> cases h;done)
theorem rd_rise (fl:List UInt8 → Option Nat) (s:List UInt8) (i:Nat) (hi:i ≤ s.length) (h0:(rdF fl s true i).no = 0):Rise s i (rdF fl s true i).toks:=by
  generalize hn:s.length - i = n
  induction n using Nat.strongRecOn generalizing i with
  | ind n ih =>
    by_cases hl:i < s.length
    · have h:=run_item fl s i hl
      cases hT:item fl s true i with
      | skip =>
        rw [rdF_skip hl hT] at h0 ⊢
        exact Rise.skip (item_skip hT) (ih _ (by omega) (i + 1) (by omega) h0 rfl)
      | bad no p f =>
        rw [rdF_bad hl hT] at h0
        rw [hT] at h
        exfalso
        cases hF:item fl s false i with
        | skip=>rw [hF] at h;obtain ⟨h1,_⟩:=h;cases h1
        | tok t tq =>rw [hF] at h;obtain ⟨h1,_⟩:=h;cases h1
        | bad no2 p2 f2=>rw [hF] at h;obtain ⟨h1,h2,_⟩:=h;cases h1;exact h2 h0
        | cut=>rw [hF] at h;obtain ⟨m,_,_,h1,h2,_⟩:=h;exact h2 h0
      | cut=>rw [rdF_cut hl hT,if_pos rfl] at h0;cases h0
      | tok t tq =>
        rw [hT] at h
        have hk:i < tq ∧ tq ≤ s.length ∧ t.pos = i ∧ t.size = tq - i:=by
          cases hF:item fl s false i with
          | skip=>rw [hF] at h;obtain ⟨h1,_⟩:=h;cases h1
          | tok t2 to2=>rw [hF] at h;obtain ⟨h1,h2,h3,h4,h5,_⟩:=h;cases h1;exact ⟨h2,h3,h4,h5⟩
          | bad no2 p2 f2=>rw [hF] at h;obtain ⟨h1,_⟩:=h;cases h1
          | cut=>rw [hF] at h;obtain ⟨m,_,_,h1,h2,h3,h4,h5⟩:=h;exact ⟨h5,by omega,h3,h4⟩
        obtain ⟨k1,k2,k3,k4⟩:=hk
        rw [rdF_tok hl hT k1] at h0 ⊢
        have:=ih _ (by omega) tq k2 h0 rfl
        refine ⟨by omega,by omega,by omega,fun j _ _=>by omega,?_⟩
        rw [show t.pos + t.size = tq by omega]
        exact this
    · rw [rdF_end (by omega)]
      intro j h1 h2
      omega
end Go.Proofs.YtgmholdkdppbmaaGreatDoor.Lx

namespace Go.Proofs.YtgmholdkdppbmaaGreatDoor.Lx
open Go.RowKit Go.Extern.Stop Go.Stop Go.Extern Go.Lib
def alikeB (t u:Tok):Bool:=match t.k,u.k with
  | .mark c,.mark d=>decide (c = d)
  | .term l,.term m=>decide (l = m)
  | .num a,.num b=>decide (a = b)
  | .str l,.str m=>decide (l = m)
  | _,_=>false
theorem u8_eq (c d:UInt8):((c.toNat:Int) == (d.toNat:Int)) = decide (c = d):=by
  by_cases h:c = d
  · subst h;simp
  · have:c.toNat ≠ d.toNat:=fun e=>h (UInt8.toNat_inj.1 e)
    rw [decide_eq_false h];simp;omega
set_option maxRecDepth 100000 in
theorem alike_mark_mark (p q:Nat) (c:UInt8) (p2 q2:Nat) (c2:UInt8) (w:World):Calls Tryz.prog 14 #[.iface 83 (.agg #[.int .i64 (p:Nat),.int .i64 (q:Nat),.int .u8 (c.toNat:Int)]),.iface 83 (.agg #[.int .i64 (p2:Nat),.int .i64 (q2:Nat),.int .u8 (c2.toNat:Int)])] w fun e w'=>e = .returned (.bool (decide (c = c2))) ∧ Below w.heap.size w w':=by
  have tamark:=ts_Mark_Mark p q c
  have tbmark:=ts_Mark_Mark p2 q2 c2
  have taterm:=ts_Mark_Term p q c
  have tbterm:=ts_Mark_Term p2 q2 c2
  have tanum:=ts_Mark_Num p q c
  have tbnum:=ts_Mark_Num p2 q2 c2
  have tastr:=ts_Mark_Str p q c
  have tbstr:=ts_Mark_Str p2 q2 c2
  have hc:=u8_eq c c2
  go_enter Tryz.func14,Tryz.ntmps14
  go_wp2_with fail
  go_ret
  exact ⟨rfl,by (repeat (first | exact Below.refl _ _ | refine Below.alloc ?_ (by simp <;> omega) _))⟩
set_option maxRecDepth 100000 in
theorem alike_mark_term (p q:Nat) (c:UInt8) (p2 q2:Nat) (l2:List UInt8) (w:World):Calls Tryz.prog 14 #[.iface 83 (.agg #[.int .i64 (p:Nat),.int .i64 (q:Nat),.int .u8 (c.toNat:Int)]),.iface 52 (.agg #[.int .i64 (p2:Nat),.int .i64 (q2:Nat),.string ⟨l2.toArray⟩])] w fun e w'=>e = .returned (.bool false) ∧ Below w.heap.size w w':=by
  have tamark:=ts_Mark_Mark p q c
  have tbmark:=ts_Term_Mark p2 q2 l2
  have taterm:=ts_Mark_Term p q c
  have tbterm:=ts_Term_Term p2 q2 l2
  have tanum:=ts_Mark_Num p q c
  have tbnum:=ts_Term_Num p2 q2 l2
  have tastr:=ts_Mark_Str p q c
  have tbstr:=ts_Term_Str p2 q2 l2
  go_enter Tryz.func14,Tryz.ntmps14
  go_wp2_with fail
  go_ret
  exact ⟨rfl,by (repeat (first | exact Below.refl _ _ | refine Below.alloc ?_ (by simp <;> omega) _))⟩
set_option maxRecDepth 100000 in
theorem alike_mark_num (p q:Nat) (c:UInt8) (p2 q2:Nat) (b2:Nat) (w:World):Calls Tryz.prog 14 #[.iface 83 (.agg #[.int .i64 (p:Nat),.int .i64 (q:Nat),.int .u8 (c.toNat:Int)]),.iface 87 (.agg #[.int .i64 (p2:Nat),.int .i64 (q2:Nat),.int .u64 (b2:Nat)])] w fun e w'=>e = .returned (.bool false) ∧ Below w.heap.size w w':=by
  have tamark:=ts_Mark_Mark p q c
  have tbmark:=ts_Num_Mark p2 q2 b2
  have taterm:=ts_Mark_Term p q c
  have tbterm:=ts_Num_Term p2 q2 b2
  have tanum:=ts_Mark_Num p q c
  have tbnum:=ts_Num_Num p2 q2 b2
  have tastr:=ts_Mark_Str p q c
  have tbstr:=ts_Num_Str p2 q2 b2
  go_enter Tryz.func14,Tryz.ntmps14
  go_wp2_with fail
  go_ret
  exact ⟨rfl,by (repeat (first | exact Below.refl _ _ | refine Below.alloc ?_ (by simp <;> omega) _))⟩
set_option maxRecDepth 100000 in
theorem alike_mark_str (p q:Nat) (c:UInt8) (p2 q2:Nat) (l2:List UInt8) (w:World):Calls Tryz.prog 14 #[.iface 83 (.agg #[.int .i64 (p:Nat),.int .i64 (q:Nat),.int .u8 (c.toNat:Int)]),.iface 90 (.agg #[.int .i64 (p2:Nat),.int .i64 (q2:Nat),.string ⟨l2.toArray⟩])] w fun e w'=>e = .returned (.bool false) ∧ Below w.heap.size w w':=by
  have tamark:=ts_Mark_Mark p q c
  have tbmark:=ts_Str_Mark p2 q2 l2
  have taterm:=ts_Mark_Term p q c
  have tbterm:=ts_Str_Term p2 q2 l2
  have tanum:=ts_Mark_Num p q c
  have tbnum:=ts_Str_Num p2 q2 l2
  have tastr:=ts_Mark_Str p q c
  have tbstr:=ts_Str_Str p2 q2 l2
  go_enter Tryz.func14,Tryz.ntmps14
  go_wp2_with fail
  go_ret
  exact ⟨rfl,by (repeat (first | exact Below.refl _ _ | refine Below.alloc ?_ (by simp <;> omega) _))⟩
set_option maxRecDepth 100000 in
theorem alike_term_mark (p q:Nat) (l:List UInt8) (p2 q2:Nat) (c2:UInt8) (w:World):Calls Tryz.prog 14 #[.iface 52 (.agg #[.int .i64 (p:Nat),.int .i64 (q:Nat),.string ⟨l.toArray⟩]),.iface 83 (.agg #[.int .i64 (p2:Nat),.int .i64 (q2:Nat),.int .u8 (c2.toNat:Int)])] w fun e w'=>e = .returned (.bool false) ∧ Below w.heap.size w w':=by
  have tamark:=ts_Term_Mark p q l
  have tbmark:=ts_Mark_Mark p2 q2 c2
  have taterm:=ts_Term_Term p q l
  have tbterm:=ts_Mark_Term p2 q2 c2
  have tanum:=ts_Term_Num p q l
  have tbnum:=ts_Mark_Num p2 q2 c2
  have tastr:=ts_Term_Str p q l
  have tbstr:=ts_Mark_Str p2 q2 c2
  go_enter Tryz.func14,Tryz.ntmps14
  go_wp2_with fail
  go_ret
  exact ⟨rfl,by (repeat (first | exact Below.refl _ _ | refine Below.alloc ?_ (by simp <;> omega) _))⟩
set_option maxRecDepth 100000 in
theorem alike_term_term (p q:Nat) (l:List UInt8) (p2 q2:Nat) (l2:List UInt8) (w:World):Calls Tryz.prog 14 #[.iface 52 (.agg #[.int .i64 (p:Nat),.int .i64 (q:Nat),.string ⟨l.toArray⟩]),.iface 52 (.agg #[.int .i64 (p2:Nat),.int .i64 (q2:Nat),.string ⟨l2.toArray⟩])] w fun e w'=>e = .returned (.bool (decide (l = l2))) ∧ Below w.heap.size w w':=by
  have tamark:=ts_Term_Mark p q l
  have tbmark:=ts_Term_Mark p2 q2 l2
  have taterm:=ts_Term_Term p q l
  have tbterm:=ts_Term_Term p2 q2 l2
  have tanum:=ts_Term_Num p q l
  have tbnum:=ts_Term_Num p2 q2 l2
  have tastr:=ts_Term_Str p q l
  have tbstr:=ts_Term_Str p2 q2 l2
  by_cases hl:l = l2
  · subst hl
    rw [decide_eq_true rfl]
    go_enter Tryz.func14,Tryz.ntmps14
    go_wp2_with fail
    go_ret
    exact ⟨by simp,by (repeat (first | exact Below.refl _ _ | refine Below.alloc ?_ (by simp <;> omega) _))⟩
  · rw [decide_eq_false hl]
    go_enter Tryz.func14,Tryz.ntmps14
    go_wp2_with fail
    go_ret
    exact ⟨by simp [hl],by (repeat (first | exact Below.refl _ _ | refine Below.alloc ?_ (by simp <;> omega) _))⟩
set_option maxRecDepth 100000 in
theorem alike_term_num (p q:Nat) (l:List UInt8) (p2 q2:Nat) (b2:Nat) (w:World):Calls Tryz.prog 14 #[.iface 52 (.agg #[.int .i64 (p:Nat),.int .i64 (q:Nat),.string ⟨l.toArray⟩]),.iface 87 (.agg #[.int .i64 (p2:Nat),.int .i64 (q2:Nat),.int .u64 (b2:Nat)])] w fun e w'=>e = .returned (.bool false) ∧ Below w.heap.size w w':=by
  have tamark:=ts_Term_Mark p q l
  have tbmark:=ts_Num_Mark p2 q2 b2
  have taterm:=ts_Term_Term p q l
  have tbterm:=ts_Num_Term p2 q2 b2
  have tanum:=ts_Term_Num p q l
  have tbnum:=ts_Num_Num p2 q2 b2
  have tastr:=ts_Term_Str p q l
  have tbstr:=ts_Num_Str p2 q2 b2
  go_enter Tryz.func14,Tryz.ntmps14
  go_wp2_with fail
  go_ret
  exact ⟨rfl,by (repeat (first | exact Below.refl _ _ | refine Below.alloc ?_ (by simp <;> omega) _))⟩
set_option maxRecDepth 100000 in
theorem alike_term_str (p q:Nat) (l:List UInt8) (p2 q2:Nat) (l2:List UInt8) (w:World):Calls Tryz.prog 14 #[.iface 52 (.agg #[.int .i64 (p:Nat),.int .i64 (q:Nat),.string ⟨l.toArray⟩]),.iface 90 (.agg #[.int .i64 (p2:Nat),.int .i64 (q2:Nat),.string ⟨l2.toArray⟩])] w fun e w'=>e = .returned (.bool false) ∧ Below w.heap.size w w':=by
  have tamark:=ts_Term_Mark p q l
  have tbmark:=ts_Str_Mark p2 q2 l2
  have taterm:=ts_Term_Term p q l
  have tbterm:=ts_Str_Term p2 q2 l2
  have tanum:=ts_Term_Num p q l
  have tbnum:=ts_Str_Num p2 q2 l2
  have tastr:=ts_Term_Str p q l
  have tbstr:=ts_Str_Str p2 q2 l2
  go_enter Tryz.func14,Tryz.ntmps14
  go_wp2_with fail
  go_ret
  exact ⟨rfl,by (repeat (first | exact Below.refl _ _ | refine Below.alloc ?_ (by simp <;> omega) _))⟩
set_option maxRecDepth 100000 in
theorem alike_num_mark (p q:Nat) (b:Nat) (p2 q2:Nat) (c2:UInt8) (w:World):Calls Tryz.prog 14 #[.iface 87 (.agg #[.int .i64 (p:Nat),.int .i64 (q:Nat),.int .u64 (b:Nat)]),.iface 83 (.agg #[.int .i64 (p2:Nat),.int .i64 (q2:Nat),.int .u8 (c2.toNat:Int)])] w fun e w'=>e = .returned (.bool false) ∧ Below w.heap.size w w':=by
  have tamark:=ts_Num_Mark p q b
  have tbmark:=ts_Mark_Mark p2 q2 c2
  have taterm:=ts_Num_Term p q b
  have tbterm:=ts_Mark_Term p2 q2 c2
  have tanum:=ts_Num_Num p q b
  have tbnum:=ts_Mark_Num p2 q2 c2
  have tastr:=ts_Num_Str p q b
  have tbstr:=ts_Mark_Str p2 q2 c2
  go_enter Tryz.func14,Tryz.ntmps14
  go_wp2_with fail
  go_ret
  exact ⟨rfl,by (repeat (first | exact Below.refl _ _ | refine Below.alloc ?_ (by simp <;> omega) _))⟩
set_option maxRecDepth 100000 in
theorem alike_num_term (p q:Nat) (b:Nat) (p2 q2:Nat) (l2:List UInt8) (w:World):Calls Tryz.prog 14 #[.iface 87 (.agg #[.int .i64 (p:Nat),.int .i64 (q:Nat),.int .u64 (b:Nat)]),.iface 52 (.agg #[.int .i64 (p2:Nat),.int .i64 (q2:Nat),.string ⟨l2.toArray⟩])] w fun e w'=>e = .returned (.bool false) ∧ Below w.heap.size w w':=by
  have tamark:=ts_Num_Mark p q b
  have tbmark:=ts_Term_Mark p2 q2 l2
  have taterm:=ts_Num_Term p q b
  have tbterm:=ts_Term_Term p2 q2 l2
  have tanum:=ts_Num_Num p q b
  have tbnum:=ts_Term_Num p2 q2 l2
  have tastr:=ts_Num_Str p q b
  have tbstr:=ts_Term_Str p2 q2 l2
  go_enter Tryz.func14,Tryz.ntmps14
  go_wp2_with fail
  go_ret
  exact ⟨rfl,by (repeat (first | exact Below.refl _ _ | refine Below.alloc ?_ (by simp <;> omega) _))⟩
set_option maxRecDepth 100000 in
theorem alike_num_num (p q:Nat) (b:Nat) (p2 q2:Nat) (b2:Nat) (w:World):Calls Tryz.prog 14 #[.iface 87 (.agg #[.int .i64 (p:Nat),.int .i64 (q:Nat),.int .u64 (b:Nat)]),.iface 87 (.agg #[.int .i64 (p2:Nat),.int .i64 (q2:Nat),.int .u64 (b2:Nat)])] w fun e w'=>e = .returned (.bool (decide (b = b2))) ∧ Below w.heap.size w w':=by
  have tamark:=ts_Num_Mark p q b
  have tbmark:=ts_Num_Mark p2 q2 b2
  have taterm:=ts_Num_Term p q b
  have tbterm:=ts_Num_Term p2 q2 b2
  have tanum:=ts_Num_Num p q b
  have tbnum:=ts_Num_Num p2 q2 b2
  have tastr:=ts_Num_Str p q b
  have tbstr:=ts_Num_Str p2 q2 b2
  have hc:((b:Int) == (b2:Int)) = decide (b = b2):=by
    by_cases h:b = b2
    · subst h;simp
    · rw [decide_eq_false h];simp;omega
  go_enter Tryz.func14,Tryz.ntmps14
  go_wp2_with fail
  go_ret
  exact ⟨rfl,by (repeat (first | exact Below.refl _ _ | refine Below.alloc ?_ (by simp <;> omega) _))⟩
set_option maxRecDepth 100000 in
theorem alike_num_str (p q:Nat) (b:Nat) (p2 q2:Nat) (l2:List UInt8) (w:World):Calls Tryz.prog 14 #[.iface 87 (.agg #[.int .i64 (p:Nat),.int .i64 (q:Nat),.int .u64 (b:Nat)]),.iface 90 (.agg #[.int .i64 (p2:Nat),.int .i64 (q2:Nat),.string ⟨l2.toArray⟩])] w fun e w'=>e = .returned (.bool false) ∧ Below w.heap.size w w':=by
  have tamark:=ts_Num_Mark p q b
  have tbmark:=ts_Str_Mark p2 q2 l2
  have taterm:=ts_Num_Term p q b
  have tbterm:=ts_Str_Term p2 q2 l2
  have tanum:=ts_Num_Num p q b
  have tbnum:=ts_Str_Num p2 q2 l2
  have tastr:=ts_Num_Str p q b
  have tbstr:=ts_Str_Str p2 q2 l2
  go_enter Tryz.func14,Tryz.ntmps14
  go_wp2_with fail
  go_ret
  exact ⟨rfl,by (repeat (first | exact Below.refl _ _ | refine Below.alloc ?_ (by simp <;> omega) _))⟩
set_option maxRecDepth 100000 in
theorem alike_str_mark (p q:Nat) (l:List UInt8) (p2 q2:Nat) (c2:UInt8) (w:World):Calls Tryz.prog 14 #[.iface 90 (.agg #[.int .i64 (p:Nat),.int .i64 (q:Nat),.string ⟨l.toArray⟩]),.iface 83 (.agg #[.int .i64 (p2:Nat),.int .i64 (q2:Nat),.int .u8 (c2.toNat:Int)])] w fun e w'=>e = .returned (.bool false) ∧ Below w.heap.size w w':=by
  have tamark:=ts_Str_Mark p q l
  have tbmark:=ts_Mark_Mark p2 q2 c2
  have taterm:=ts_Str_Term p q l
  have tbterm:=ts_Mark_Term p2 q2 c2
  have tanum:=ts_Str_Num p q l
  have tbnum:=ts_Mark_Num p2 q2 c2
  have tastr:=ts_Str_Str p q l
  have tbstr:=ts_Mark_Str p2 q2 c2
  go_enter Tryz.func14,Tryz.ntmps14
  go_wp2_with fail
  go_ret
  exact ⟨rfl,by (repeat (first | exact Below.refl _ _ | refine Below.alloc ?_ (by simp <;> omega) _))⟩
set_option maxRecDepth 100000 in
theorem alike_str_term (p q:Nat) (l:List UInt8) (p2 q2:Nat) (l2:List UInt8) (w:World):Calls Tryz.prog 14 #[.iface 90 (.agg #[.int .i64 (p:Nat),.int .i64 (q:Nat),.string ⟨l.toArray⟩]),.iface 52 (.agg #[.int .i64 (p2:Nat),.int .i64 (q2:Nat),.string ⟨l2.toArray⟩])] w fun e w'=>e = .returned (.bool false) ∧ Below w.heap.size w w':=by
  have tamark:=ts_Str_Mark p q l
  have tbmark:=ts_Term_Mark p2 q2 l2
  have taterm:=ts_Str_Term p q l
  have tbterm:=ts_Term_Term p2 q2 l2
  have tanum:=ts_Str_Num p q l
  have tbnum:=ts_Term_Num p2 q2 l2
  have tastr:=ts_Str_Str p q l
  have tbstr:=ts_Term_Str p2 q2 l2
  go_enter Tryz.func14,Tryz.ntmps14
  go_wp2_with fail
  go_ret
  exact ⟨rfl,by (repeat (first | exact Below.refl _ _ | refine Below.alloc ?_ (by simp <;> omega) _))⟩
set_option maxRecDepth 100000 in
theorem alike_str_num (p q:Nat) (l:List UInt8) (p2 q2:Nat) (b2:Nat) (w:World):Calls Tryz.prog 14 #[.iface 90 (.agg #[.int .i64 (p:Nat),.int .i64 (q:Nat),.string ⟨l.toArray⟩]),.iface 87 (.agg #[.int .i64 (p2:Nat),.int .i64 (q2:Nat),.int .u64 (b2:Nat)])] w fun e w'=>e = .returned (.bool false) ∧ Below w.heap.size w w':=by
  have tamark:=ts_Str_Mark p q l
  have tbmark:=ts_Num_Mark p2 q2 b2
  have taterm:=ts_Str_Term p q l
  have tbterm:=ts_Num_Term p2 q2 b2
  have tanum:=ts_Str_Num p q l
  have tbnum:=ts_Num_Num p2 q2 b2
  have tastr:=ts_Str_Str p q l
  have tbstr:=ts_Num_Str p2 q2 b2
  go_enter Tryz.func14,Tryz.ntmps14
  go_wp2_with fail
  go_ret
  exact ⟨rfl,by (repeat (first | exact Below.refl _ _ | refine Below.alloc ?_ (by simp <;> omega) _))⟩
set_option maxRecDepth 100000 in
theorem alike_str_str (p q:Nat) (l:List UInt8) (p2 q2:Nat) (l2:List UInt8) (w:World):Calls Tryz.prog 14 #[.iface 90 (.agg #[.int .i64 (p:Nat),.int .i64 (q:Nat),.string ⟨l.toArray⟩]),.iface 90 (.agg #[.int .i64 (p2:Nat),.int .i64 (q2:Nat),.string ⟨l2.toArray⟩])] w fun e w'=>e = .returned (.bool (decide (l = l2))) ∧ Below w.heap.size w w':=by
  have tamark:=ts_Str_Mark p q l
  have tbmark:=ts_Str_Mark p2 q2 l2
  have taterm:=ts_Str_Term p q l
  have tbterm:=ts_Str_Term p2 q2 l2
  have tanum:=ts_Str_Num p q l
  have tbnum:=ts_Str_Num p2 q2 l2
  have tastr:=ts_Str_Str p q l
  have tbstr:=ts_Str_Str p2 q2 l2
  by_cases hl:l = l2
  · subst hl
    rw [decide_eq_true rfl]
    go_enter Tryz.func14,Tryz.ntmps14
    go_wp2_with fail
    go_ret
    exact ⟨by simp,by (repeat (first | exact Below.refl _ _ | refine Below.alloc ?_ (by simp <;> omega) _))⟩
  · rw [decide_eq_false hl]
    go_enter Tryz.func14,Tryz.ntmps14
    go_wp2_with fail
    go_ret
    exact ⟨by simp [hl],by (repeat (first | exact Below.refl _ _ | refine Below.alloc ?_ (by simp <;> omega) _))⟩
theorem alike_any (t u:Tok) (w:World):Calls Tryz.prog 14 #[tokV t,tokV u] w fun e w'=>e = .returned (.bool (alikeB t u)) ∧ Below w.heap.size w w':=by
  obtain ⟨p,q,k⟩:=t
  obtain ⟨p2,q2,k2⟩:=u
  cases k with
  | mark c =>
    cases k2 with
    | mark c2=>exact alike_mark_mark p q c p2 q2 c2 w
    | term l2=>exact alike_mark_term p q c p2 q2 l2 w
    | num b2=>exact alike_mark_num p q c p2 q2 b2 w
    | str l2=>exact alike_mark_str p q c p2 q2 l2 w
  | term l =>
    cases k2 with
    | mark c2=>exact alike_term_mark p q l p2 q2 c2 w
    | term l2=>exact alike_term_term p q l p2 q2 l2 w
    | num b2=>exact alike_term_num p q l p2 q2 b2 w
    | str l2=>exact alike_term_str p q l p2 q2 l2 w
  | num b =>
    cases k2 with
    | mark c2=>exact alike_num_mark p q b p2 q2 c2 w
    | term l2=>exact alike_num_term p q b p2 q2 l2 w
    | num b2=>exact alike_num_num p q b p2 q2 b2 w
    | str l2=>exact alike_num_str p q b p2 q2 l2 w
  | str l =>
    cases k2 with
    | mark c2=>exact alike_str_mark p q l p2 q2 c2 w
    | term l2=>exact alike_str_term p q l p2 q2 l2 w
    | num b2=>exact alike_str_num p q l p2 q2 b2 w
    | str l2=>exact alike_str_str p q l p2 q2 l2 w
end Go.Proofs.YtgmholdkdppbmaaGreatDoor.Lx

namespace Go.Proofs.YtgmholdkdppbmaaGreatDoor.Lx
open Go.RowKit
theorem tok_face (t:Tok):∃ tx v,tokV t = .iface tx v ∧ (∀ w,(method 391 tx v "Place").run Tryz.prog w = .ok (179,.agg #[.int .i64 (t.pos:Nat),.int .i64 (t.size:Nat)]) w) ∧ (∀ w,(method 391 tx v "Width").run Tryz.prog w = .ok (22,.agg #[.int .i64 (t.pos:Nat),.int .i64 (t.size:Nat)]) w):=by
  obtain ⟨p,q,k⟩:=t
  cases k with
  | mark c=>exact ⟨_,_,rfl,mt_Mark_Place p q c,mt_Mark_Width p q c⟩
  | term l=>exact ⟨_,_,rfl,mt_Term_Place p q l,mt_Term_Width p q l⟩
  | num b=>exact ⟨_,_,rfl,mt_Num_Place p q b,mt_Num_Width p q b⟩
  | str l=>exact ⟨_,_,rfl,mt_Str_Place p q l,mt_Str_Width p q l⟩
theorem out_no (A:Option Addr) (n c:Nat) (a b d e:Int) (W:World):(Instr.field 32 (.agg #[.slice A n c,.int .i64 a,.int .i64 b,.int .i64 d,.int .i64 e]) 1).run Tryz.prog W = .ok (.int .i64 a) W:=by kernel_rfl
theorem out_toks (A:Option Addr) (n c:Nat) (a b d e:Int) (W:World):(Instr.field 32 (.agg #[.slice A n c,.int .i64 a,.int .i64 b,.int .i64 d,.int .i64 e]) 0).run Tryz.prog W = .ok (.slice A n c) W:=by kernel_rfl
theorem alike_self (t:Tok) (p q:Nat):alikeB t ⟨p,q,t.k⟩ = true:=by
  obtain ⟨a,b,k⟩:=t
  cases k <;> simp [alikeB]
theorem cutA9 {w:World} {B n c k j:Nat} {A:Option Addr} {bs:List UInt8} (h:RB w B A n bs) (hn:n ≤ c) (hk:k + j ≤ n):RB w B (if c = k then A else Option.map (fun x=>x.add k) A) j ((bs.drop k).take j):=by
  have hl:=h.1
  refine ⟨by simp;omega,fun hj=>?_⟩
  rw [if_neg (by omega)]
  obtain ⟨g,o,rfl,hg,hc⟩:=h.2 (by omega)
  refine ⟨g,o + k,?_,hg,fun i hi=>?_⟩
  · show some (Addr.add _ _) = _
    unfold Addr.add
    split <;> simp_all
  · have hi':i < j:=by simp at hi;omega
    rw [Nat.add_assoc,hc (k + i) (by omega)]
    simp
theorem alone_refO {bs:List UInt8} (h0:(refO bs true).no = 0):bs.length ≤ 16777216 ∧ Rise bs 0 (refO bs true).toks ∧
    ∀ t ∈ (refO bs true).toks,refO ((bs.drop t.pos).take t.size) true = ⟨[⟨0,t.size,t.k⟩],0,0,0,0⟩:=by
  have hl:bs.length ≤ 16777216:=by
    rcases Nat.lt_or_ge 16777216 bs.length with h | h
    · exfalso
      unfold refO at h0
      rw [if_neg (by omega)] at h0
      split at h0
      · cases h0
      · rename_i h2;exact h2 h0
    · exact h
  have e1:refO bs true = rdF flP bs true 0:=by unfold refO;rw [if_pos hl]
  have e2:refO bs true = (run flP 0 .out bs).shut flP bs.length:=by rw [(refO_run bs).2,runM_run bs 0 .out (by omega)]
  refine ⟨hl,?_,fun t ht=>?_⟩
  · rw [e1] at h0 ⊢
    exact rd_rise flP bs 0 (Nat.zero_le _) h0
  · rw [e2] at ht
    obtain ⟨h1,h2⟩:=shut_al flP bs t ht
    have hsub:((bs.drop t.pos).take t.size).length = t.size:=by simp;omega
    rw [(refO_run _).2,runM_run _ 0 .out (by omega),hsub]
    exact h2
end Go.Proofs.YtgmholdkdppbmaaGreatDoor.Lx

namespace Go.Proofs.YtgmholdkdppbmaaGreatDoor.Lx
open Go.RowKit Go.Extern.Stop Go.Stop Go.Extern Go.Lib
theorem run_eql_iface_struct {P:Program} (w:World) {t tx:TypeId} {ms:Array (String × TypeId)} (xs ys:Array Value) {b:Bool}
    (ht:P.underlying t = some (.interface ms)) (hc:(P.info? tx).map (·.comparable) = some true)
    (h:(Op.equalIn 9999 tx (.agg xs) (.agg ys)).run P w = .ok b w) :
    (binOp .eql t (.iface tx (.agg xs)) (.iface tx (.agg ys))).run P w = .ok (.bool b) w:=by
  cases hi:P.info? tx with
  | none=>simp [hi] at hc
  | some i =>
    have hcc:i.comparable = true:=by simpa [hi] using hc
    have h9:(Op.equalIn (9999 + 1) t (.iface tx (.agg xs)) (.iface tx (.agg ys))).run P w = .ok b w:=by
      conv=>lhs;unfold Op.equalIn
      simp [run_underlying ht,typeInfo,hi,hcc,h]
    simp only [binOp]
    simp [Op.equal,Op.maxDepth,h9]
theorem eqc_Mark (p q p' q':Nat) (c c':UInt8) (w:World):(Op.equalIn 9999 83 (.agg #[.int .i64 (p:Nat),.int .i64 (q:Nat),.int .u8 (c.toNat:Int)]) (.agg #[.int .i64 (p':Nat),.int .i64 (q':Nat),.int .u8 (c'.toNat:Int)])).run Tryz.prog w = Result.ok (decide (c = c') && decide (p = p') && decide (q = q')) w:=by
  rw [run_equalIn_struct w 9998 83 _ _ (by kernel_rfl) (by kernel_rfl)]
  simp [go_sem,run_equalIn_struct]
  by_cases h1:p = p'
  · by_cases h2:q = q'
    · by_cases h3:c = c'
      · subst h1 h2 h3;simp
      · subst h1 h2;simp [h3];intro h;exact h3 (UInt8.toNat_inj.1 (by omega))
    · subst h1;simp [h2,Int.natCast_inj]
  · simp [h1,Int.natCast_inj]
theorem eqc_Num (p q p' q' b b':Nat) (w:World):(Op.equalIn 9999 87 (.agg #[.int .i64 (p:Nat),.int .i64 (q:Nat),.int .u64 (b:Nat)]) (.agg #[.int .i64 (p':Nat),.int .i64 (q':Nat),.int .u64 (b':Nat)])).run Tryz.prog w = Result.ok (decide (b = b') && decide (p = p') && decide (q = q')) w:=by
  rw [run_equalIn_struct w 9998 87 _ _ (by kernel_rfl) (by kernel_rfl)]
  simp [go_sem,run_equalIn_struct]
  by_cases h1:p = p'
  · by_cases h2:q = q'
    · by_cases h3:b = b'
      · subst h1 h2 h3;simp
      · subst h1 h2;simp [h3];omega
    · subst h1;simp [h2,Int.natCast_inj]
  · simp [h1,Int.natCast_inj]
theorem eqc_Term (p q p' q':Nat) (l l':List UInt8) (w:World):(Op.equalIn 9999 52 (.agg #[.int .i64 (p:Nat),.int .i64 (q:Nat),.string ⟨l.toArray⟩]) (.agg #[.int .i64 (p':Nat),.int .i64 (q':Nat),.string ⟨l'.toArray⟩])).run Tryz.prog w = Result.ok (decide (l = l') && decide (p = p') && decide (q = q')) w:=by
  rw [run_equalIn_struct w 9998 52 _ _ (by kernel_rfl) (by kernel_rfl)]
  simp [go_sem,run_equalIn_struct]
  by_cases h1:p = p'
  · by_cases h2:q = q'
    · by_cases h3:l = l'
      · subst h1 h2 h3;simp
      · subst h1 h2;simp [h3]
    · subst h1;simp [h2,Int.natCast_inj]
  · simp [h1,Int.natCast_inj]
theorem eqc_Str (p q p' q':Nat) (l l':List UInt8) (w:World):(Op.equalIn 9999 90 (.agg #[.int .i64 (p:Nat),.int .i64 (q:Nat),.string ⟨l.toArray⟩]) (.agg #[.int .i64 (p':Nat),.int .i64 (q':Nat),.string ⟨l'.toArray⟩])).run Tryz.prog w = Result.ok (decide (l = l') && decide (p = p') && decide (q = q')) w:=by
  rw [run_equalIn_struct w 9998 90 _ _ (by kernel_rfl) (by kernel_rfl)]
  simp [go_sem,run_equalIn_struct]
  by_cases h1:p = p'
  · by_cases h2:q = q'
    · by_cases h3:l = l'
      · subst h1 h2 h3;simp
      · subst h1 h2;simp [h3]
    · subst h1;simp [h2,Int.natCast_inj]
  · simp [h1,Int.natCast_inj]
set_option maxRecDepth 100000 in
theorem tok_eql (t u:Tok) (w:World):(binOp .eql 35 (tokV t) (tokV u)).run Tryz.prog w = .ok (.bool (alikeB t u && decide (t.pos = u.pos) && decide (t.size = u.size))) w:=by
  obtain ⟨pt,st,kt⟩:=t
  obtain ⟨pu,su,ku⟩:=u
  cases kt <;> cases ku <;> simp only [tokV,alikeB,Bool.false_and]
  all_goals first
    | exact (run_eql_iface_types _ _ _ _ Tryz.underlying35 (by decide) w)
    | exact (run_eql_iface_struct w _ _ Tryz.underlying35 (by kernel_rfl) (eqc_Mark _ _ _ _ _ _ w))
    | exact (run_eql_iface_struct w _ _ Tryz.underlying35 (by kernel_rfl) (eqc_Num _ _ _ _ _ _ w))
    | exact (run_eql_iface_struct w _ _ Tryz.underlying35 (by kernel_rfl) (eqc_Term _ _ _ _ _ _ w))
    | exact (run_eql_iface_struct w _ _ Tryz.underlying35 (by kernel_rfl) (eqc_Str _ _ _ _ _ _ w))
end Go.Proofs.YtgmholdkdppbmaaGreatDoor.Lx
