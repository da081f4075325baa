/-
  Texts of the proof of 'LexG': Num, Fig, TextP, DecP, UtfP, UtfQ, UtfR, LexP, LexQ, LexR, LexS, Mem, Bytes, Stay, LexA, LexB.
-/
import GoSem.Core.Utf8
import Derived.WalkKit
import Derived.Below
import Derived.Laws.OwnMore
import Derived.Laws.Rows
import Derived.Lib.Hide
import Derived.Lib.ConvBytes
import Derived.Deep.Draws
import Derived.Test.YtgmholdkdppbmaaGreatDoorProg
import Derived.Laws.BytesArg
import Derived.Deep.AppendLies
import Derived.KernelRfl
import Derived.Lib.AppendStr
import Derived.Laws.CopyOwn
import Derived.Laws.MakeOwn
import Derived.RegionTactic
import Derived.Laws.EntriesVeiled
import Derived.Deep.DrawnRows
set_option linter.unusedVariables false
set_option linter.unusedSimpArgs false
namespace Go.Proofs.YtgmholdkdppbmaaGreatDoor
def num (q:Nat) (l:List Nat):Nat:=l.foldl (fun a d=>a * q + d) 0
theorem snoc_ind {α:Type} {P:List α → Prop} (h0:P []) (h1:∀ l d,P l → P (l ++ [d])):∀ l,P l:=by
  intro l
  have:∀ n (l:List α),l.length = n → P l:=by
    intro n
    induction n with
    | zero=>intro l hl;rw [List.eq_nil_of_length_eq_zero hl];exact h0
    | succ n ih =>
      intro l hl
      rcases List.eq_nil_or_concat l with rfl | ⟨l',d,rfl⟩
      · exact h0
      · rw [List.concat_eq_append] at hl ⊢
        exact h1 _ _ (ih _ (by simpa using hl))
  exact this _ l rfl
end Go.Proofs.YtgmholdkdppbmaaGreatDoor

namespace Go.Proofs.YtgmholdkdppbmaaGreatDoor
def fval (q:Nat):List Nat → Nat
  | []=>0
  | d :: l=>d + q * fval q l
def Figs (q:Nat) (l:List Nat):Prop:=∀ d ∈ l,d < q
def Tops (l:List Nat):Prop:=∀ i,i + 1 = l.length → l.getD i 0 ≠ 0
structure IsF (q x:Nat) (l:List Nat):Prop where
  figs:Figs q l
  val:fval q l = x
  tops:Tops l
theorem fval_cons (q d:Nat) (l:List Nat):fval q (d :: l) = d + q * fval q l:=rfl
theorem fval_append (q:Nat) (a b:List Nat):fval q (a ++ b) = fval q a + q ^ a.length * fval q b:=by
  induction a with
  | nil=>simp [fval]
  | cons d a ih =>
    rw [List.cons_append,fval_cons,ih,fval_cons,List.length_cons,Nat.pow_succ,Nat.mul_add,Nat.add_assoc,Nat.mul_comm (q ^ a.length) q,Nat.mul_assoc]
theorem fval_snoc (q:Nat) (a:List Nat) (d:Nat):fval q (a ++ [d]) = fval q a + q ^ a.length * d:=by
  rw [fval_append];simp [fval]
theorem Figs.nil (q:Nat):Figs q []:=fun _ h=>by cases h
theorem Figs.snoc {q d:Nat} {l:List Nat} (h:Figs q l) (hd:d < q):Figs q (l ++ [d]):=by
  intro x hx
  rcases List.mem_append.1 hx with h1 | h1
  · exact h x h1
  · simp at h1;omega
theorem Figs.cons {q d:Nat} {l:List Nat} (h:Figs q l) (hd:d < q):Figs q (d :: l):=by
  intro x hx
  rcases List.mem_cons.1 hx with h1 | h1
  · omega
  · exact h x h1
theorem Figs.append {q:Nat} {l m:List Nat} (h:Figs q l) (k:Figs q m):Figs q (l ++ m):=fun x hx=>(List.mem_append.1 hx).elim (h x) (k x)
theorem Figs.take {q:Nat} {l:List Nat} (h:Figs q l) (n:Nat):Figs q (l.take n):=fun x hx=>h x (List.mem_of_mem_take hx)
theorem Figs.drop {q:Nat} {l:List Nat} (h:Figs q l) (n:Nat):Figs q (l.drop n):=fun x hx=>h x (List.mem_of_mem_drop hx)
theorem Figs.tail {q d:Nat} {l:List Nat} (h:Figs q (d :: l)):Figs q l:=fun x hx=>h x (List.mem_cons_of_mem _ hx)
theorem Figs.head {q d:Nat} {l:List Nat} (h:Figs q (d :: l)):d < q:=h d (List.mem_cons_self ..)
theorem Figs.set {q d i:Nat} {l:List Nat} (h:Figs q l) (hd:d < q):Figs q (l.set i d):=by
  intro x hx
  rcases List.mem_or_eq_of_mem_set hx with h1 | h1
  · exact h x h1
  · omega
theorem Figs.get {q i:Nat} {l:List Nat} (h:Figs q l) (hq:0 < q):l.getD i 0 < q:=by
  by_cases hi:i < l.length
  · simp [List.getD,hi];exact h _ (List.getElem_mem hi)
  · simp [List.getD,show l.length ≤ i by omega];exact hq
theorem fval_lt {q:Nat} {l:List Nat} (h:Figs q l):fval q l < q ^ l.length:=by
  induction l with
  | nil=>simp [fval]
  | cons d l ih =>
    have h1:=ih h.tail
    have h2:=h.head
    rw [fval_cons,List.length_cons,Nat.pow_succ,Nat.mul_comm _ q]
    have h3:q * (fval q l + 1) ≤ q * q ^ l.length:=Nat.mul_le_mul_left q h1
    rw [Nat.mul_add,Nat.mul_one] at h3
    omega
theorem fval_get {q:Nat} {l:List Nat} (h:Figs q l) (i:Nat):fval q l / q ^ i % q = l.getD i 0:=by
  induction l generalizing i with
  | nil=>simp [fval]
  | cons d l ih =>
    have hd:=h.head
    cases i with
    | zero=>simp [fval_cons,Nat.add_mul_mod_self_left,Nat.mod_eq_of_lt hd]
    | succ i =>
      have e:(d + q * fval q l) / q = fval q l:=by
        rw [Nat.add_mul_div_left _ _ (by omega),Nat.div_eq_of_lt hd,Nat.zero_add]
      rw [fval_cons,Nat.pow_succ,Nat.mul_comm (q ^ i) q,← Nat.div_div_eq_div_mul,e,ih h.tail]
      simp [List.getD]
theorem fval_zero {q:Nat} {l:List Nat} (h:∀ d ∈ l,d = 0):fval q l = 0:=by
  induction l with
  | nil=>rfl
  | cons d l ih =>
    rw [fval_cons,ih (fun x hx=>h x (List.mem_cons_of_mem _ hx)),h d (List.mem_cons_self ..)];simp
theorem fval_cut {q n:Nat} {l:List Nat} (hn:n ≤ l.length) (h:∀ j,n ≤ j → l.getD j 0 = 0):fval q (l.take n) = fval q l:=by
  have h1:=fval_append q (l.take n) (l.drop n)
  rw [List.take_append_drop,fval_zero (l:=l.drop n),Nat.mul_zero,Nat.add_zero] at h1
  · exact h1.symm
  · intro d hd
    obtain ⟨j,hj,rfl⟩:=List.mem_iff_getElem.1 hd
    have:=h (n + j) (by omega)
    simp [List.getD] at this
    rw [List.getElem_drop]
    rw [List.length_drop] at hj
    rw [List.getElem?_eq_getElem (by omega)] at this
    simpa using this
theorem IsF.nil (q:Nat):IsF q 0 []:=⟨Figs.nil q,rfl,fun i h=>by simp at h⟩
theorem IsF.of_cut {q n:Nat} {l:List Nat} (hf:Figs q l) (hn:n ≤ l.length) (h:∀ j,n ≤ j → l.getD j 0 = 0) (ht:n = 0 ∨ l.getD (n - 1) 0 ≠ 0):IsF q (fval q l) (l.take n):=by
  refine ⟨hf.take n,fval_cut hn h,fun i hi=>?_⟩
  rw [List.length_take,Nat.min_eq_left hn] at hi
  rcases ht with h0 | h1
  · omega
  · rw [show n - 1 = i by omega] at h1
    simpa [List.getD,List.getElem?_take,show i < n by omega] using h1
theorem IsF.lt {q x:Nat} {l:List Nat} (h:IsF q x l):x < q ^ l.length:=by rw [← h.val];exact fval_lt h.figs
theorem IsF.get {q x:Nat} {l:List Nat} (h:IsF q x l) (i:Nat):l.getD i 0 = x / q ^ i % q:=by rw [← h.val];exact (fval_get h.figs i).symm
theorem IsF.ge {q x:Nat} {l:List Nat} (h:IsF q x l) (i:Nat) (hi:i + 1 = l.length):q ^ i ≤ x:=by
  have h1:=h.get i
  have h2:=h.tops i hi
  rw [h1] at h2
  rcases Nat.lt_or_ge x (q ^ i) with h3 | h3
  · rw [Nat.div_eq_of_lt h3] at h2;simp at h2
  · exact h3
theorem IsF.zero {q:Nat} {l:List Nat} (hq:0 < q) (h:IsF q 0 l):l = []:=by
  cases l with
  | nil=>rfl
  | cons d l =>
    have:=h.ge l.length rfl
    have:=Nat.pow_pos (n:=l.length) hq
    omega
theorem IsF.pos {q x:Nat} {l:List Nat} (hq:0 < q) (h:IsF q x l):0 < l.length ↔ 0 < x:=by
  constructor
  · intro h1
    have:=h.ge (l.length - 1) (by omega)
    have:=Nat.pow_pos (n:=l.length - 1) hq
    omega
  · intro h1
    rcases Nat.eq_zero_or_pos l.length with h2 | h2
    · obtain rfl:=List.eq_nil_of_length_eq_zero h2
      have:=h.val;simp [fval] at this;omega
    · exact h2
theorem pow_lt_inj {q a b:Nat} (hq:1 < q) (h:q ^ a < q ^ b):a < b:=by
  rcases Nat.lt_or_ge a b with h1 | h1
  · exact h1
  · have:=Nat.pow_le_pow_right (show 0 < q by omega) h1;omega
theorem IsF.len_le {q x n:Nat} {l:List Nat} (hq:1 < q) (h:IsF q x l) (hx:x < q ^ n):l.length ≤ n:=by
  rcases Nat.eq_zero_or_pos l.length with h2 | h2
  · omega
  · have h3:=h.ge (l.length - 1) (by omega)
    have:=pow_lt_inj hq (Nat.lt_of_le_of_lt h3 hx)
    omega
theorem IsF.len_mono {q x y:Nat} {l m:List Nat} (hq:1 < q) (h:IsF q x l) (k:IsF q y m) (hxy:x ≤ y):l.length ≤ m.length :=
  h.len_le hq (Nat.lt_of_le_of_lt hxy k.lt)
theorem IsF.inj {q x:Nat} {l m:List Nat} (hq:1 < q) (h:IsF q x l) (k:IsF q x m):l = m:=by
  have hl:l.length = m.length:=Nat.le_antisymm (h.len_mono hq k (Nat.le_refl _)) (k.len_mono hq h (Nat.le_refl _))
  refine List.ext_getElem hl fun i h1 h2=>?_
  have a:=h.get i
  have b:=k.get i
  simp [List.getD,h1,h2] at a b
  rw [a,b]
def lows (q:Nat):Nat → Nat → List Nat
  | 0,_=>[]
  | n + 1,x=>x % q :: lows q n (x / q)
theorem lows_length (q n x:Nat):(lows q n x).length = n:=by
  induction n generalizing x with
  | zero=>rfl
  | succ n ih=>simp [lows,ih]
theorem lows_figs (q n x:Nat) (hq:0 < q):Figs q (lows q n x):=by
  induction n generalizing x with
  | zero=>exact Figs.nil q
  | succ n ih=>exact (ih _).cons (Nat.mod_lt _ hq)
theorem fval_lows (q n x:Nat):fval q (lows q n x) = x % q ^ n:=by
  induction n generalizing x with
  | zero=>simp [lows,fval,Nat.mod_one]
  | succ n ih=>rw [lows,fval_cons,ih,Nat.pow_succ,Nat.mul_comm (q ^ n) q,Nat.mod_mul]
theorem lows_get (q n x i:Nat) (hi:i < n):(lows q n x)[i]? = some (x / q ^ i % q):=by
  induction n generalizing x i with
  | zero=>omega
  | succ n ih =>
    cases i with
    | zero=>simp [lows]
    | succ i=>rw [lows,List.getElem?_cons_succ,ih _ _ (by omega),Nat.div_div_eq_div_mul,Nat.mul_comm,← Nat.pow_succ]
theorem lows_snoc (q n x:Nat):lows q (n + 1) x = lows q n x ++ [x / q ^ n % q]:=by
  induction n generalizing x with
  | zero=>simp [lows]
  | succ n ih =>
    rw [lows,ih (x / q),lows,List.cons_append,Nat.div_div_eq_div_mul,Nat.mul_comm q,← Nat.pow_succ]
def flen (q:Nat):Nat → Nat → Nat
  | 0,_=>0
  | fuel + 1,x=>if x = 0 then 0 else flen q fuel (x / q) + 1
theorem flen_spec {q:Nat} (hq:1 < q):∀ fuel x,x < 2 ^ fuel → IsF q x (lows q (flen q fuel x) x):=by
  intro fuel
  induction fuel with
  | zero =>
    intro x hx
    obtain rfl:x = 0:=(by simpa using hx)
    exact IsF.nil q
  | succ fuel ih =>
    intro x hx
    unfold flen
    by_cases h0:x = 0
    · rw [if_pos h0,h0];exact IsF.nil q
    · rw [if_neg h0,lows]
      have hlt:x / q < 2 ^ fuel:=by
        rw [Nat.pow_succ] at hx
        have h1:x / q ≤ x / 2:=Nat.div_le_div_left (by omega) (by omega)
        omega
      have hi:=ih (x / q) hlt
      refine ⟨hi.figs.cons (Nat.mod_lt _ (by omega)),?_,?_⟩
      · rw [fval_cons,hi.val,Nat.mod_add_div]
      · intro i hi'
        cases i with
        | zero =>
          rw [List.length_cons] at hi'
          have hl:(lows q (flen q fuel (x / q)) (x / q)) = []:=List.eq_nil_of_length_eq_zero (by omega)
          have hz:x / q = 0:=by rw [← hi.val,hl];rfl
          have:=Nat.mod_add_div x q
          simp [List.getD]
          rw [hz] at this
          simp at this
          omega
        | succ i =>
          have:=hi.tops i (by rw [List.length_cons] at hi';omega)
          simpa [List.getD] using this
def figsOf (q x:Nat):List Nat:=lows q (flen q (x + 1) x) x
theorem isF_figs {q:Nat} (hq:1 < q) (x:Nat):IsF q x (figsOf q x):=flen_spec hq _ _ (Nat.lt_of_lt_of_le Nat.lt_two_pow_self (Nat.pow_le_pow_right (by omega) (by omega)))
theorem IsF.eq {q x:Nat} {l:List Nat} (hq:1 < q) (h:IsF q x l):l = figsOf q x:=h.inj hq (isF_figs hq x)
end Go.Proofs.YtgmholdkdppbmaaGreatDoor

namespace Go.Proofs.YtgmholdkdppbmaaGreatDoor
structure Tell (X:Nat) (acc:List Nat) (i left xq:Nat):Prop where
  figs:Figs 10 acc
  hi:i ≤ 18
  eq:X = fval 10 acc + 10 ^ acc.length * (left + 10 ^ (18 - i) * xq)
  lt:left < 10 ^ (18 - i)
  top:0 < xq ∨ 0 < left ∨ Tops acc
theorem tops_snoc {acc:List Nat} {d:Nat} (hd:d ≠ 0):Tops (acc ++ [d]):=by
  intro i hi
  simp at hi
  subst hi
  simpa [List.getD] using hd
theorem Tell.step {X:Nat} {acc:List Nat} {i left xq:Nat} (h:Tell X acc i left xq) (hi:i < 18) (hg:0 < xq ∨ 0 < left):Tell X (acc ++ [left % 10]) (i + 1) (left / 10) xq:=by
  refine ⟨h.figs.snoc (Nat.mod_lt _ (by omega)),by omega,?_,?_,?_⟩
  · rw [fval_snoc,h.eq,List.length_append,List.length_singleton,Nat.pow_succ,Nat.mul_assoc,Nat.mul_add 10,← Nat.mul_assoc 10 (10 ^ _),← Nat.pow_succ',show (18 - (i + 1)).succ = 18 - i by omega]
    rw [Nat.add_assoc,← Nat.mul_add,← Nat.add_assoc,Nat.mod_add_div]
  · have:=h.lt
    rw [show 18 - i = (18 - (i + 1)) + 1 by omega,Nat.pow_succ] at this
    omega
  · by_cases h1:0 < xq
    · exact .inl h1
    · by_cases h2:0 < left / 10
      · exact .inr (.inl h2)
      · exact .inr (.inr (tops_snoc (by omega)))
theorem Tell.size {X:Nat} {acc:List Nat} {i left xq:Nat} (h:Tell X acc i left xq) (hg:0 < xq ∨ 0 < left):10 ^ acc.length ≤ X:=by
  rw [h.eq]
  have:1 ≤ left + 10 ^ (18 - i) * xq:=by
    rcases hg with h1 | h1
    · have:=Nat.mul_le_mul (Nat.one_le_two_pow (n:=0)) h1
      have h2:1 * 1 ≤ 10 ^ (18 - i) * xq:=Nat.mul_le_mul (Nat.pow_pos (by omega)) h1
      omega
    · omega
  have:=Nat.mul_le_mul_left (10 ^ acc.length) this
  omega
theorem Tell.done {X:Nat} {acc:List Nat} {i left xq:Nat} (h:Tell X acc i left xq) (hg:i = 18 ∨ (xq = 0 ∧ left = 0)):X = fval 10 acc + 10 ^ acc.length * xq ∧ (0 < xq ∨ Tops acc):=by
  have hl:left = 0:=by
    rcases hg with rfl | ⟨_,h1⟩
    · have:=h.lt;simp at this;exact this
    · exact h1
  have he:=h.eq
  refine ⟨?_,?_⟩
  · rcases hg with rfl | ⟨h1,_⟩
    · simpa [hl] using he
    · simpa [hl,h1] using he
  · rcases h.top with h1 | h1 | h1
    · exact .inl h1
    · omega
    · exact .inr h1
theorem Tell.start {X:Nat} {acc:List Nat} {x left xq:Nat} (hf:Figs 10 acc) (hX:X = fval 10 acc + 10 ^ acc.length * x) (hx:x = 1000000000000000000 * xq + left) (hl:left < 1000000000000000000) (h0:0 < x):Tell X acc 0 left xq:=by
  refine ⟨hf,by omega,?_,by simpa using hl,?_⟩
  · rw [hX,hx,Nat.add_comm left]
  · by_cases h1:0 < xq
    · exact .inl h1
    · refine .inr (.inl ?_)
      have:xq = 0:=by omega
      subst this
      simpa [hx] using h0
def dval (s:List UInt8):Nat:=s.foldl (fun a c=>10 * a + (c.toNat - 48)) 0
def isD (c:UInt8):Bool:=decide (48 ≤ c.toNat ∧ c.toNat ≤ 57)
theorem dval_nil:dval [] = 0:=rfl
theorem dval_snoc (s:List UInt8) (c:UInt8):dval (s ++ [c]) = 10 * dval s + (c.toNat - 48):=by simp [dval]
theorem dval_append (a b:List UInt8):dval (a ++ b) = dval a * 10 ^ b.length + dval b:=by
  revert a
  refine snoc_ind (P:=fun b=>∀ a,dval (a ++ b) = dval a * 10 ^ b.length + dval b) (fun a=>by simp [dval]) ?_ b
  intro b c ih a
  rw [← List.append_assoc,dval_snoc,ih,dval_snoc,List.length_append,List.length_singleton,Nat.pow_succ,Nat.mul_add,← Nat.mul_assoc,Nat.add_assoc,Nat.mul_comm 10 (dval a),Nat.mul_assoc (dval a),Nat.mul_comm 10 (10 ^ b.length)]
theorem dval_lt (s:List UInt8) (h:∀ c ∈ s,isD c = true):dval s < 10 ^ s.length:=by
  revert h
  refine snoc_ind (P:=fun s=>(∀ c ∈ s,isD c = true) → dval s < 10 ^ s.length) (fun _=>by simp [dval]) ?_ s
  intro l c ih h
  have h1:=ih (fun x hx=>h x (by simp [hx]))
  have h2:=of_decide_eq_true (h c (by simp))
  rw [dval_snoc,List.length_append,List.length_singleton,Nat.pow_succ]
  omega
end Go.Proofs.YtgmholdkdppbmaaGreatDoor

namespace Go.Proofs.YtgmholdkdppbmaaGreatDoor
def dAt (s:List UInt8) (i:Nat):Bool:=match s[i]? with
  | some c=>isD c
  | none=>false
def ov (s:List UInt8) (i:Nat):Nat:=i + ((s.drop i).takeWhile isD).length
theorem dAt_lt {s:List UInt8} {i:Nat} (h:dAt s i = true):i < s.length:=by
  unfold dAt at h
  cases hc:s[i]? with
  | none=>rw [hc] at h;cases h
  | some c=>exact (List.getElem?_eq_some_iff.1 hc).1
theorem dAt_ge {s:List UInt8} {i:Nat} (h:s.length ≤ i):dAt s i = false:=by
  unfold dAt;rw [List.getElem?_eq_none h]
theorem dAt_get {s:List UInt8} {i:Nat} (h:i < s.length):dAt s i = isD s[i]:=by unfold dAt;rw [List.getElem?_eq_getElem h]
theorem drop_get {s:List UInt8} {i:Nat} (h:i < s.length):s.drop i = s[i] :: s.drop (i + 1):=List.drop_eq_getElem_cons h
theorem ov_yes {s:List UInt8} {i:Nat} (h:dAt s i = true):ov s i = ov s (i + 1):=by
  have hl:=dAt_lt h
  rw [dAt_get hl] at h
  unfold ov
  rw [drop_get hl,List.takeWhile_cons,if_pos h,List.length_cons]
  omega
theorem ov_no {s:List UInt8} {i:Nat} (h:dAt s i = false):ov s i = i:=by
  unfold ov
  rcases Nat.lt_or_ge i s.length with hl | hl
  · rw [dAt_get hl] at h
    rw [drop_get hl,List.takeWhile_cons,if_neg (by simp [h]),List.length_nil,Nat.add_zero]
  · rw [List.drop_eq_nil_of_le hl];rfl
theorem ov_ge (s:List UInt8) (i:Nat):i ≤ ov s i:=by unfold ov;omega
theorem ov_le {s:List UInt8} {i:Nat} (h:i ≤ s.length):ov s i ≤ s.length:=by
  unfold ov
  have:=(List.takeWhile_prefix (p:=isD) (l:=s.drop i)).length_le
  rw [List.length_drop] at this
  omega
theorem ov_at {s:List UInt8} {i:Nat} (h:dAt s i = true):i + 1 ≤ ov s i:=by rw [ov_yes h];exact ov_ge _ _
theorem ov_end (s:List UInt8) (i:Nat):dAt s (ov s i) = false:=by
  generalize hn:s.length - i = n
  induction n generalizing i with
  | zero=>rw [ov_no (dAt_ge (by omega))];exact dAt_ge (by omega)
  | succ n ih =>
    cases h:dAt s i with
    | false=>rw [ov_no h];exact h
    | true=>rw [ov_yes h];exact ih (i + 1) (by omega)
theorem ov_ov {s:List UInt8} {i k:Nat} (h1:i ≤ k) (h2:k ≤ ov s i):ov s k = ov s i:=by
  generalize hn:k - i = n
  induction n generalizing i with
  | zero=>rw [show k = i by omega]
  | succ n ih =>
    cases h:dAt s i with
    | false=>rw [ov_no h] at h2;omega
    | true =>
      rw [ov_yes h] at h2 ⊢
      exact ih (by omega) h2 (by omega)
theorem dAt_mid {s:List UInt8} {i k:Nat} (h1:i ≤ k) (h2:k < ov s i):dAt s k = true:=by
  cases h:dAt s k with
  | true=>rfl
  | false =>
    have:=ov_ov (s:=s) h1 (by omega)
    rw [ov_no h] at this
    omega
def p0 (s:List UInt8):Nat:=if s[0]? = some 45 then 1 else 0
def p1 (s:List UInt8):Nat:=if s[p0 s]? = some 48 then p0 s + 1 else ov s (p0 s)
def pt (s:List UInt8):Bool:=s[p1 s]? == some 46
def p2 (s:List UInt8):Nat:=if pt s then ov s (p1 s + 1) else p1 s
def hasE (s:List UInt8):Bool:=s[p2 s]? == some 101 || s[p2 s]? == some 69
def sgn (s:List UInt8):Bool:=s[p2 s + 1]? == some 43 || s[p2 s + 1]? == some 45
def p3 (s:List UInt8):Nat:=if sgn s then p2 s + 2 else p2 s + 1
def p4 (s:List UInt8):Nat:=if hasE s then ov s (p3 s) else p2 s
def wrongP (s:List UInt8):Option Nat :=
  if dAt s (p0 s) = false then some (p0 s)
  else if pt s = true ∧ dAt s (p1 s + 1) = false then some (p1 s + 1)
  else if hasE s = true ∧ dAt s (p3 s) = false then some (p3 s)
  else if p4 s < s.length then some (p4 s) else none
def cutL (s:List UInt8) (i k:Nat):List UInt8:=(s.drop i).take (k - i)
def negP (s:List UInt8):Bool:=s[0]? == some 45
def wholeP (s:List UInt8):List UInt8:=cutL s (p0 s) (p1 s)
def behindP (s:List UInt8):List UInt8:=if pt s then cutL s (p1 s + 1) (p2 s) else []
def underP (s:List UInt8):Bool:=hasE s && s[p2 s + 1]? == some 45
def expP (s:List UInt8):List UInt8:=if hasE s then cutL s (p3 s) (p4 s) else []
def farE:Nat:=35184372088832
def capE (l:List UInt8):Nat:=l.foldl (fun e c=>if e < farE then 10 * e + (c.toNat - 48) else e) 0
def noughtsL (l:List UInt8):List UInt8:=l.dropWhile (· == 48)
def noughtsR (l:List UInt8):List UInt8:=(l.reverse.dropWhile (· == 48)).reverse
abbrev Dm:=Bool × List UInt8 × Int
def stripD (d:Dm):Dm :=
  let s:=noughtsL d.2.1
  let t:=noughtsR s
  if t = [] then (false,[],0) else (d.1,t,d.2.2 + s.length - t.length)
def bareP (s:List UInt8):Dm :=
  stripD (negP s,wholeP s ++ behindP s,(if underP s then -(capE (expP s):Int) else (capE (expP s):Int)) - (behindP s).length)
theorem p0_le {s:List UInt8}:p0 s ≤ s.length:=by
  unfold p0
  split
  · rename_i h;have:=(List.getElem?_eq_some_iff.1 h).1;omega
  · omega
theorem p1_le {s:List UInt8}:p1 s ≤ s.length:=by
  unfold p1
  split
  · rename_i h;have:=(List.getElem?_eq_some_iff.1 h).1;omega
  · exact ov_le p0_le
theorem pt_lt {s:List UInt8} (h:pt s = true):p1 s < s.length:=by
  unfold pt at h
  exact (List.getElem?_eq_some_iff.1 (by simpa using h)).1
theorem p2_le {s:List UInt8}:p2 s ≤ s.length:=by
  unfold p2
  split
  · rename_i h;exact ov_le (pt_lt h)
  · exact p1_le
theorem hasE_lt {s:List UInt8} (h:hasE s = true):p2 s < s.length:=by
  unfold hasE at h
  simp only [Bool.or_eq_true,beq_iff_eq] at h
  rcases h with h | h <;> exact (List.getElem?_eq_some_iff.1 h).1
theorem p3_le {s:List UInt8} (h:hasE s = true):p3 s ≤ s.length:=by
  have:=hasE_lt h
  unfold p3
  split
  · rename_i h
    unfold sgn at h
    simp only [Bool.or_eq_true,beq_iff_eq] at h
    rcases h with h | h <;> (have:=(List.getElem?_eq_some_iff.1 h).1;omega)
  · omega
theorem p4_le {s:List UInt8}:p4 s ≤ s.length:=by
  unfold p4
  split
  · rename_i h;exact ov_le (p3_le h)
  · exact p2_le
theorem capE_lt (l:List UInt8) (hl:∀ c ∈ l,isD c = true):capE l < 10 * farE:=by
  unfold capE
  have key:∀ (l:List UInt8) (e:Nat),(∀ c ∈ l,isD c = true) → e < 10 * farE → l.foldl (fun e c=>if e < farE then 10 * e + (c.toNat - 48) else e) e < 10 * farE:=by
    intro l
    induction l with
    | nil=>intro e _ h;exact h
    | cons c l ih =>
      intro e hc h
      rw [List.foldl_cons]
      refine ih _ (fun x hx=>hc x (List.mem_cons_of_mem _ hx)) ?_
      have h1:=hc c List.mem_cons_self
      unfold isD at h1
      simp at h1
      split
      · unfold farE at *;omega
      · exact h
  exact key l 0 hl (by unfold farE;omega)
end Go.Proofs.YtgmholdkdppbmaaGreatDoor

namespace Go.Proofs.YtgmholdkdppbmaaGreatDoor
def bt (s:List UInt8) (i:Nat):Nat:=(s.getD i 0).toNat
theorem bt_lt (s:List UInt8) (i:Nat):bt s i < 256:=UInt8.toNat_lt _
theorem bt_get (s:List UInt8) (i:Nat) (h:i < s.length):bt s i = s[i].toNat:=by simp [bt,List.getD,h]
def wd (c:Nat):Nat:=if c < 128 then 1 else if c < 194 then 0 else if c < 224 then 2 else if c < 240 then 3 else if c < 245 then 4 else 0
def lo (c:Nat):Nat:=if c = 224 then 160 else if c = 240 then 144 else 128
def hi (c:Nat):Nat:=if c = 237 then 159 else if c = 244 then 143 else 191
def okb (c i d:Nat):Bool:=if i = 1 then decide (lo c ≤ d ∧ d ≤ hi c) else decide (128 ≤ d ∧ d ≤ 191)
theorem wd_le (c:Nat):wd c ≤ 4:=by unfold wd;(repeat' split) <;> omega
theorem okb_cont {c i d:Nat} (h:okb c i d = true):128 ≤ d ∧ d ≤ 191:=by
  unfold okb at h
  have h1:128 ≤ lo c:=by unfold lo;(repeat' split) <;> omega
  have h2:hi c ≤ 191:=by unfold hi;(repeat' split) <;> omega
  by_cases hi1:i = 1
  · rw [if_pos hi1] at h;have:=of_decide_eq_true h;omega
  · rw [if_neg hi1] at h;exact of_decide_eq_true h
def firstBad (s:List UInt8) (i n k:Nat):Nat :=
  if k < n then (if i + k < s.length ∧ okb (bt s i) k (bt s (i + k)) = true then firstBad s i n (k + 1) else k) else n
termination_by n - k
theorem firstBad_on {s:List UInt8} {i n k:Nat} (h:k < n) (h1:i + k < s.length) (h2:okb (bt s i) k (bt s (i + k)) = true):firstBad s i n k = firstBad s i n (k + 1):=by
  rw [firstBad,if_pos h,if_pos ⟨h1,h2⟩]
theorem firstBad_end {s:List UInt8} {i n k:Nat} (h:n ≤ k):firstBad s i n k = n:=by rw [firstBad,if_neg (by omega)]
theorem firstBad_here {s:List UInt8} {i n k:Nat} (h:k < n) (h1:¬ (i + k < s.length ∧ okb (bt s i) k (bt s (i + k)) = true)):firstBad s i n k = k:=by
  rw [firstBad,if_pos h,if_neg h1]
theorem firstBad_spec (s:List UInt8) (i n k:Nat) (hk:k ≤ n):k ≤ firstBad s i n k ∧ firstBad s i n k ≤ n ∧ (∀ j,k ≤ j → j < firstBad s i n k → i + j < s.length ∧ okb (bt s i) j (bt s (i + j)) = true) ∧
    (firstBad s i n k < n → ¬ (i + firstBad s i n k < s.length ∧ okb (bt s i) (firstBad s i n k) (bt s (i + firstBad s i n k)) = true)):=by
  by_cases h:k < n
  · by_cases h1:i + k < s.length ∧ okb (bt s i) k (bt s (i + k)) = true
    · have ih:=firstBad_spec s i n (k + 1) (by omega)
      rw [firstBad_on h h1.1 h1.2]
      refine ⟨by omega,ih.2.1,fun j hj hj2=>?_,ih.2.2.2⟩
      rcases Nat.lt_or_ge k j with h2 | h2
      · exact ih.2.2.1 j h2 hj2
      · obtain rfl:j = k:=by omega
        exact h1
    · rw [firstBad_here h h1]
      exact ⟨Nat.le_refl _,hk,fun j hj hj2=>absurd hj2 (by omega),fun _=>h1⟩
  · rw [firstBad_end (by omega)]
    obtain rfl:n = k:=by omega
    exact ⟨Nat.le_refl _,Nat.le_refl _,fun j hj hj2=>absurd hj2 (by omega),fun h=>absurd h (by omega)⟩
termination_by n - k
def c0 (c n:Nat):Nat:=if n = 2 then c - 192 else if n = 3 then c - 224 else if n = 4 then c - 240 else c
def codeK (s:List UInt8) (i n:Nat):Nat → Nat
  | 0=>c0 (bt s i) n
  | k + 1=>64 * codeK s i n k + bt s (i + (k + 1)) - 128
def code (s:List UInt8) (i n:Nat):Nat:=codeK s i n (n - 1)
structure Ch where
  r:Nat
  n:Nat
  e:Nat
  p:Nat
deriving DecidableEq
def chAt (s:List UInt8) (i:Nat):Ch :=
  if wd (bt s i) = 0 then ⟨0,0,30,i⟩
  else if firstBad s i (wd (bt s i)) 1 = wd (bt s i) then ⟨code s i (wd (bt s i)),wd (bt s i),0,0⟩
  else if i + firstBad s i (wd (bt s i)) 1 < s.length then ⟨0,0,30,i + firstBad s i (wd (bt s i)) 1⟩ else ⟨0,0,31,s.length⟩
theorem chAt_none {s:List UInt8} {i:Nat} (h:wd (bt s i) = 0):chAt s i = ⟨0,0,30,i⟩:=by unfold chAt;rw [if_pos h]
theorem chAt_ok {s:List UInt8} {i n:Nat} (hn:wd (bt s i) = n) (h0:0 < n) (h:firstBad s i n 1 = n):chAt s i = ⟨code s i n,n,0,0⟩:=by
  unfold chAt;rw [hn,if_neg (by omega),if_pos h]
theorem chAt_byte {s:List UInt8} {i n k:Nat} (hn:wd (bt s i) = n) (h0:0 < n) (h:firstBad s i n 1 = k) (hk:k < n) (hl:i + k < s.length):chAt s i = ⟨0,0,30,i + k⟩:=by
  unfold chAt;rw [hn,if_neg (by omega),h,if_neg (by omega),if_pos hl]
theorem chAt_cut {s:List UInt8} {i n k:Nat} (hn:wd (bt s i) = n) (h0:0 < n) (h:firstBad s i n 1 = k) (hk:k < n) (hl:¬ i + k < s.length):chAt s i = ⟨0,0,31,s.length⟩:=by
  unfold chAt;rw [hn,if_neg (by omega),h,if_neg (by omega),if_neg hl]
theorem chAt_spec (s:List UInt8) (i:Nat):((chAt s i).e = 0 ∧ 0 < (chAt s i).n ∧ (chAt s i).n = wd (bt s i) ∧ (chAt s i).p = 0 ∧ (chAt s i).r = code s i (chAt s i).n ∧ (∀ j,1 ≤ j → j < (chAt s i).n → i + j < s.length ∧ okb (bt s i) j (bt s (i + j)) = true)) ∨
    ((chAt s i).e = 30 ∧ (chAt s i).n = 0 ∧ (chAt s i).r = 0 ∧ i ≤ (chAt s i).p ∧ (i < s.length → (chAt s i).p < s.length)) ∨ ((chAt s i).e = 31 ∧ (chAt s i).n = 0 ∧ (chAt s i).r = 0 ∧ (chAt s i).p = s.length):=by
  unfold chAt
  by_cases h0:wd (bt s i) = 0
  · rw [if_pos h0];exact .inr (.inl ⟨rfl,rfl,rfl,Nat.le_refl _,id⟩)
  · rw [if_neg h0]
    have hs:=firstBad_spec s i (wd (bt s i)) 1 (by omega)
    by_cases h1:firstBad s i (wd (bt s i)) 1 = wd (bt s i)
    · rw [if_pos h1]
      rw [h1] at hs
      exact .inl ⟨rfl,by show 0 < wd _;omega,rfl,rfl,rfl,fun j hj hj2=>hs.2.2.1 j hj hj2⟩
    · rw [if_neg h1]
      by_cases h2:i + firstBad s i (wd (bt s i)) 1 < s.length
      · rw [if_pos h2];exact .inr (.inl ⟨rfl,rfl,rfl,Nat.le_add_right _ _,fun _=>h2⟩)
      · rw [if_neg h2];exact .inr (.inr ⟨rfl,rfl,rfl,rfl⟩)
theorem chAt_len {s:List UInt8} {i:Nat} (hi:i < s.length):i + (chAt s i).n ≤ s.length:=by
  rcases chAt_spec s i with ⟨_,h1,_,_,_,h2⟩ | ⟨_,h,_⟩ | ⟨_,h,_⟩
  · by_cases hn:(chAt s i).n = 1
    · omega
    · have:=h2 ((chAt s i).n - 1) (by omega) (by omega);omega
  · omega
  · omega
def wrongF (s:List UInt8) (i:Nat):Nat × Nat :=
  if _h:i < s.length then (if (chAt s i).e = 0 then wrongF s (i + ((chAt s i).n - 1) + 1) else ((chAt s i).e,(chAt s i).p)) else (0,0)
termination_by s.length - i
def wrong (s:List UInt8):Nat × Nat:=wrongF s 0
def right (s:List UInt8):Bool:=decide ((wrong s).1 = 0)
end Go.Proofs.YtgmholdkdppbmaaGreatDoor

namespace Go.Proofs.YtgmholdkdppbmaaGreatDoor
structure Fd where
  place:Nat
  held:List UInt8
  bad:Bool
def tk (h:List UInt8) (c:UInt8):Option (List UInt8):=match h with
  | []=>if wd c.toNat = 0 then none else if wd c.toNat = 1 then some [] else some [c]
  | a :: l=>if okb a.toNat (l.length + 1) c.toNat = true then (if l.length + 2 = wd a.toNat then some [] else some (a :: l ++ [c])) else none
def fstep (f:Fd) (c:UInt8):Fd:=if f.bad = true then f else match tk f.held c with | some h=>⟨f.place + 1,h,false⟩ | none=>⟨f.place,[],true⟩
def frun (f:Fd) (bs:List UInt8):Fd:=bs.foldl fstep f
def fini:Fd:=⟨0,[],false⟩
theorem frun_nil (f:Fd):frun f [] = f:=rfl
theorem frun_snoc (f:Fd) (bs:List UInt8) (c:UInt8):frun f (bs ++ [c]) = fstep (frun f bs) c:=by simp [frun]
theorem frun_append (f:Fd) (a b:List UInt8):frun f (a ++ b) = frun (frun f a) b:=by simp [frun]
end Go.Proofs.YtgmholdkdppbmaaGreatDoor

namespace Go.Proofs.YtgmholdkdppbmaaGreatDoor
theorem code1 (s:List UInt8) (i:Nat):code s i 1 = bt s i:=rfl
def Scal (r:Nat):Prop:=r < 0xD800 ∨ (0xE000 ≤ r ∧ r < 0x110000)
instance (r:Nat):Decidable (Scal r):=by unfold Scal;infer_instance
theorem valid_scal {r:Nat} (h:Scal r):Utf8.valid (r:Int) = true:=by
  unfold Scal at h
  unfold Utf8.valid
  simp
  omega
def enc (r:Nat):List UInt8 :=
  if r < 128 then [UInt8.ofNat r] else if r < 2048 then [UInt8.ofNat (192 + r / 64),UInt8.ofNat (128 + r % 64)]
  else if r < 65536 then [UInt8.ofNat (224 + r / 4096),UInt8.ofNat (128 + r / 64 % 64),UInt8.ofNat (128 + r % 64)]
  else [UInt8.ofNat (240 + r / 262144),UInt8.ofNat (128 + r / 4096 % 64),UInt8.ofNat (128 + r / 64 % 64),UInt8.ofNat (128 + r % 64)]
theorem enc_model {r:Nat} (h:Scal r):Utf8.encode (r:Int) = ⟨(enc r).toArray⟩:=by
  unfold Utf8.encode enc
  simp only [valid_scal h,if_true,Int.toNat_natCast]
  (repeat' split) <;> first | rfl | omega
theorem enc_length (r:Nat):(enc r).length = if r < 128 then 1 else if r < 2048 then 2 else if r < 65536 then 3 else 4:=by
  unfold enc;(repeat' split) <;> rfl
theorem toNat_ofNat {n:Nat} (h:n < 256):(UInt8.ofNat n).toNat = n:=UInt8.toNat_ofNat_of_lt' h
theorem byte_eq {s:List UInt8} {i:Nat} (h:i < s.length) {n:Nat} (hn:bt s i = n):s[i] = UInt8.ofNat n:=by
  apply UInt8.toNat_inj.1
  have:=bt_lt s i
  rw [toNat_ofNat (by omega),← hn,bt_get s i h]
end Go.Proofs.YtgmholdkdppbmaaGreatDoor

namespace Go.Proofs.YtgmholdkdppbmaaGreatDoor.Lx
inductive Tk where
  | mark (c:UInt8)
  | term (w:List UInt8)
  | num (b:Nat)
  | str (t:List UInt8)
deriving DecidableEq
structure Tok where
  pos:Nat
  size:Nat
  k:Tk
deriving DecidableEq
def blankB (c:UInt8):Bool:=c == 32 || c == 9 || c == 10 || c == 13
def markB (c:UInt8):Bool:=c == 123 || c == 125 || c == 91 || c == 93 || c == 58 || c == 44
def wordOf (c:UInt8):List UInt8:=if c = 110 then [110,117,108,108] else if c = 116 then [116,114,117,101] else if c = 102 then [102,97,108,115,101] else []
def nxt (st:Nat) (c:UInt8):Option Nat :=
  if st = 0 ∧ c = 45 then some 1
  else if (st = 0 ∨ st = 1) ∧ c = 48 then some 2
  else if (st = 0 ∨ st = 1 ∨ st = 3) ∧ isD c = true then some 3
  else if (st = 2 ∨ st = 3) ∧ c = 46 then some 4
  else if (st = 4 ∨ st = 5) ∧ isD c = true then some 5
  else if (st = 2 ∨ st = 3 ∨ st = 5) ∧ (c = 101 ∨ c = 69) then some 6
  else if st = 6 ∧ (c = 43 ∨ c = 45) then some 7
  else if (st = 6 ∨ st = 7 ∨ st = 8) ∧ isD c = true then some 8
  else none
def ends (st:Nat):Bool:=st == 2 || st == 3 || st == 5 || st == 8
def hexv (c:UInt8):Option Nat :=
  if 48 ≤ c.toNat ∧ c.toNat ≤ 57 then some (c.toNat - 48)
  else if 97 ≤ c.toNat ∧ c.toNat ≤ 102 then some (c.toNat - 97 + 10)
  else if 65 ≤ c.toNat ∧ c.toNat ≤ 70 then some (c.toNat - 65 + 10)
  else none
def simp1 (c:UInt8):Option UInt8 :=
  if c = 34 then some 34 else if c = 92 then some 92 else if c = 47 then some 47 else if c = 98 then some 8 else if c = 102 then some 12
  else if c = 110 then some 10 else if c = 114 then some 13 else if c = 116 then some 9 else none
def loneB (low:Bool) (n code v:Nat):Bool :=
  if low then (n == 0 && v != 13) || (n == 1 && decide (v < 12)) else n == 1 && code == 13 && decide (12 ≤ v)
inductive Md where
  | out
  | num (fr st:Nat) (raw:List UInt8)
  | word (fr:Nat) (raw:List UInt8)
  | txt (fr:Nat) (says held:List UInt8)
  | esc (fr:Nat) (says:List UInt8)
  | dig (fr:Nat) (says:List UInt8) (n code high:Nat)
  | sla (fr:Nat) (says:List UInt8) (high:Nat)
  | leu (fr:Nat) (says:List UInt8) (high:Nat)
inductive Rs where
  | go (m:Md) (t:List Tok)
  | bad (no at_:Nat) (t:List Tok)
def Rs.cons (t:Tok):Rs → Rs
  | .go m l=>.go m (t :: l)
  | .bad no p l=>.bad no p (t :: l)
def outS (p:Nat) (c:UInt8):Rs :=
  if blankB c = true then .go .out []
  else if markB c = true then .go .out [⟨p,1,.mark c⟩]
  else if c = 34 then .go (.txt p [] []) []
  else if c = 45 ∨ isD c = true then .go (.num p ((nxt 0 c).getD 0) [c]) []
  else if wordOf c ≠ [] then .go (.word p [c]) []
  else .bad 94 p []
def wholeS (fr:Nat) (says:List UInt8) (code high:Nat):Md :=
  if high ≠ 0 then .txt fr (says ++ enc (65536 + (high - 55296) * 1024 + (code - 56320))) []
  else if 55296 ≤ code ∧ code ≤ 56319 then .sla fr says code
  else .txt fr (says ++ enc code) []
def step (fl:List UInt8 → Option Nat) (p:Nat) (m:Md) (c:UInt8):Rs:=match m with
  | .out=>outS p c
  | .num fr st raw=>match nxt st c with
    | some st'=>.go (.num fr st' (raw ++ [c])) []
    | none=>if ends st = true then (match fl raw with
        | some b=>(outS p c).cons ⟨fr,p - fr,.num b⟩
        | none=>.bad 41 fr []) else .bad 94 p []
  | .word fr raw =>
    if (wordOf (raw.getD 0 0))[raw.length]? = some c then
      (if raw.length + 1 = (wordOf (raw.getD 0 0)).length then .go .out [⟨fr,p + 1 - fr,.term (wordOf (raw.getD 0 0))⟩] else .go (.word fr (raw ++ [c])) [])
    else .bad 94 p []
  | .txt fr says held =>
    if held = [] ∧ c = 34 then .go .out [⟨fr,p + 1 - fr,.str says⟩]
    else if held = [] ∧ c = 92 then .go (.esc fr says) []
    else if held = [] ∧ c.toNat < 32 then .bad 91 p []
    else match tk held c with
      | some h=>.go (.txt fr (says ++ [c]) h) []
      | none=>.bad 90 p []
  | .esc fr says=>if c = 117 then .go (.dig fr says 0 0 0) [] else match simp1 c with
    | some b=>.go (.txt fr (says ++ [b]) []) []
    | none=>.bad 92 p []
  | .dig fr says n code high=>match hexv c with
    | none=>if high = 0 then .bad 92 p [] else .bad 93 p []
    | some v=>if loneB (high != 0) n code v = true then .bad 93 p []
      else if n = 3 then .go (wholeS fr says (16 * code + v) high) [] else .go (.dig fr says (n + 1) (16 * code + v) high) []
  | .sla fr says high=>if c = 92 then .go (.leu fr says high) [] else .bad 93 p []
  | .leu fr says high=>if c = 117 then .go (.dig fr says 0 0 high) [] else .bad 93 p []
structure Rn where
  toks:List Tok
  fin:Md ⊕ (Nat × Nat × Nat)
def Rn.pre (t:List Tok) (r:Rn):Rn:=⟨t ++ r.toks,r.fin⟩
theorem Rn.pre_nil (r:Rn):r.pre [] = r:=rfl
def run (fl:List UInt8 → Option Nat) (p:Nat) (m:Md):List UInt8 → Rn
  | []=>⟨[],.inl m⟩
  | c :: l=>match step fl p m c with
    | .go m' t=>(run fl (p + 1) m' l).pre t
    | .bad no q t=>⟨t,.inr (no,q,p)⟩
theorem run_go {fl:List UInt8 → Option Nat} {p:Nat} {m m':Md} {c:UInt8} {t:List Tok} (l:List UInt8) (h:step fl p m c = .go m' t):run fl p m (c :: l) = (run fl (p + 1) m' l).pre t:=by
  rw [run,h]
theorem run_bad {fl:List UInt8 → Option Nat} {p:Nat} {m:Md} {c:UInt8} {no q:Nat} {t:List Tok} (l:List UInt8) (h:step fl p m c = .bad no q t):run fl p m (c :: l) = ⟨t,.inr (no,q,p)⟩:=by
  rw [run,h]
/-! ### A number -/
def rnum:Nat → List UInt8 → Nat × Nat
  | st,[]=>(0,st)
  | st,c :: l=>match nxt st c with
    | none=>(0,st)
    | some st'=>((rnum st' l).1 + 1,(rnum st' l).2)
theorem rnum_on {st st':Nat} {c:UInt8} (l:List UInt8) (h:nxt st c = some st'):rnum st (c :: l) = ((rnum st' l).1 + 1,(rnum st' l).2):=by rw [rnum,h]
theorem rnum_off {st:Nat} {c:UInt8} (l:List UInt8) (h:nxt st c = none):rnum st (c :: l) = (0,st):=by rw [rnum,h]
theorem rnum_le:∀ (l:List UInt8) (st:Nat),(rnum st l).1 ≤ l.length
  | [],_=>Nat.le_refl _
  | c :: l,st=>by
    cases h:nxt st c with
    | none=>rw [rnum_off l h];exact Nat.zero_le _
    | some st'=>rw [rnum_on l h];exact Nat.succ_le_succ (rnum_le l st')
theorem run_num (fl:List UInt8 → Option Nat):∀ (l:List UInt8) (p fr st:Nat) (raw:List UInt8),
    run fl p (.num fr st raw) l =
      if (rnum st l).1 = l.length then ⟨[],.inl (.num fr (rnum st l).2 (raw ++ l))⟩
      else if ends (rnum st l).2 = true then (match fl (raw ++ l.take (rnum st l).1) with
        | some b=>(run fl (p + (rnum st l).1) .out (l.drop (rnum st l).1)).pre [⟨fr,p + (rnum st l).1 - fr,.num b⟩]
        | none=>⟨[],.inr (41,fr,p + (rnum st l).1)⟩)
      else ⟨[],.inr (94,p + (rnum st l).1,p + (rnum st l).1)⟩
  | [],p,fr,st,raw=>by simp [run,rnum]
  | c :: l,p,fr,st,raw=>by
    cases hn:nxt st c with
    | some st' =>
      have hs:step fl p (.num fr st raw) c = .go (.num fr st' (raw ++ [c])) []:=by simp only [step,hn]
      rw [run_go l hs,rnum_on l hn,run_num fl l (p + 1) fr st' (raw ++ [c])]
      simp only [List.length_cons,Nat.add_right_cancel_iff,List.append_assoc,List.singleton_append,List.take_succ_cons,List.drop_succ_cons,Nat.add_assoc,Nat.add_comm 1,Rn.pre_nil]
    | none =>
      rw [rnum_off l hn]
      simp only [List.length_cons,List.take_zero,List.append_nil,List.drop_zero,Nat.add_zero]
      rw [if_neg (by omega)]
      by_cases he:ends st = true
      · rw [if_pos he]
        cases hf:fl raw with
        | none =>
          exact run_bad l (by simp only [step,hn,he,if_true,hf])
        | some b =>
          have hs:step fl p (.num fr st raw) c = (outS p c).cons ⟨fr,p - fr,.num b⟩:=by simp only [step,hn,he,if_true,hf]
          simp only []
          rw [run,hs,run]
          show _ = (match outS p c with | .go m' t=>_ | .bad no q t=>_:Rn).pre _
          cases outS p c with
          | go m t=>simp [Rs.cons,Rn.pre]
          | bad no q t=>simp [Rs.cons,Rn.pre]
      · rw [if_neg he]
        exact run_bad l (by simp only [step,hn,he,if_false];rfl)
/-! ### Where a number ends -/
def rna (t:List UInt8) (st j:Nat):Nat × Nat:=(j + (rnum st (t.drop j)).1,(rnum st (t.drop j)).2)
theorem rna_on {t:List UInt8} {st st' j:Nat} {c:UInt8} (h:t[j]? = some c) (hn:nxt st c = some st'):rna t st j = rna t st' (j + 1):=by
  obtain ⟨hj,hc⟩:=List.getElem?_eq_some_iff.1 h
  subst hc
  unfold rna
  rw [drop_get hj,rnum_on _ hn]
  simp only [Prod.mk.injEq,and_true]
  omega
theorem rna_off {t:List UInt8} {st j:Nat} {c:UInt8} (h:t[j]? = some c) (hn:nxt st c = none):rna t st j = (j,st):=by
  obtain ⟨hj,hc⟩:=List.getElem?_eq_some_iff.1 h
  subst hc
  unfold rna
  rw [drop_get hj,rnum_off _ hn]
  rfl
theorem rna_end {t:List UInt8} {st j:Nat} (h:t[j]? = none):rna t st j = (j,st):=by
  unfold rna
  rw [List.drop_eq_nil_of_le (List.getElem?_eq_none_iff.1 h)]
  rfl
theorem dAt_some {t:List UInt8} {j:Nat} (h:dAt t j = true):∃ c,t[j]? = some c ∧ isD c = true:=by
  unfold dAt at h
  cases hc:t[j]? with
  | none=>rw [hc] at h;cases h
  | some c=>rw [hc] at h;exact ⟨c,rfl,h⟩
theorem dAt_of {t:List UInt8} {j:Nat} {c:UInt8} (h:t[j]? = some c):dAt t j = isD c:=by unfold dAt;rw [h]
theorem nxt_same {st:Nat} (hst:st = 3 ∨ st = 5 ∨ st = 8) {c:UInt8} (h:isD c = true):nxt st c = some st:=by
  rcases hst with rfl | rfl | rfl <;> simp [nxt,h]
theorem rna_dig {t:List UInt8} {st:Nat} (hst:st = 3 ∨ st = 5 ∨ st = 8) (j:Nat):rna t st j = rna t st (ov t j):=by
  generalize hn:t.length - j = n
  induction n generalizing j with
  | zero=>rw [ov_no (dAt_ge (by omega))]
  | succ n ih =>
    cases h:dAt t j with
    | false=>rw [ov_no h]
    | true =>
      obtain ⟨c,hc,hd⟩:=dAt_some h
      rw [rna_on hc (nxt_same hst hd),ov_yes h]
      exact ih (j + 1) (by omega)
theorem rna_8 (t:List UInt8) (j:Nat):rna t 8 j = (ov t j,8):=by
  rw [rna_dig (.inr (.inr rfl))]
  have he:=ov_end t j
  cases hc:t[ov t j]? with
  | none=>exact rna_end hc
  | some c =>
    rw [dAt_of hc] at he
    exact rna_off hc (by simp [nxt,he])
theorem rna_exp {t:List UInt8} {st q:Nat} (hst:st = 2 ∨ st = 3 ∨ st = 5) (hd:st ≠ 2 → dAt t q = false) (hp:t[q]? = some 46 → st = 5) :
    let e:=t[q]? == some 101 || t[q]? == some 69
    let r:=if t[q + 1]? == some 43 || t[q + 1]? == some 45 then q + 2 else q + 1
    (e = false → rna t st q = (q,st)) ∧
    (e = true → dAt t r = true → rna t st q = (ov t r,8)) ∧
    (e = true → dAt t r = false → ∃ s',ends s' = false ∧ rna t st q = (r,s')):=by
  intro e r
  have hq:e = true → rna t st q = rna t 6 (q + 1):=by
    intro he
    have:t[q]? = some 101 ∨ t[q]? = some 69:=by simpa [e] using he
    rcases this with h | h
    · exact rna_on h (by rcases hst with rfl | rfl | rfl <;> decide)
    · exact rna_on h (by rcases hst with rfl | rfl | rfl <;> decide)
  have h6:rna t 6 (q + 1) = if t[q + 1]? == some 43 || t[q + 1]? == some 45 then rna t 7 (q + 2) else rna t 6 (q + 1):=by
    split
    · rename_i h
      have:t[q + 1]? = some 43 ∨ t[q + 1]? = some 45:=by simpa using h
      rcases this with h | h
      · exact rna_on h (by decide)
      · exact rna_on h (by decide)
    · rfl
  have hr:∃ s',(s' = 6 ∨ s' = 7) ∧ rna t 6 (q + 1) = rna t s' r ∧ (s' = 6 → t[r]? ≠ some 43 ∧ t[r]? ≠ some 45):=by
    rw [h6]
    by_cases hs:(t[q + 1]? == some 43 || t[q + 1]? == some 45) = true
    · rw [if_pos hs]
      refine ⟨7,.inr rfl,?_,fun h=>by cases h⟩
      show _ = rna t 7 (if _ then _ else _)
      rw [if_pos hs]
    · rw [if_neg hs]
      refine ⟨6,.inl rfl,?_,fun _=>?_⟩
      · show _ = rna t 6 (if _ then _ else _)
        rw [if_neg hs]
      · show t[(if _ then _ else _:Nat)]? ≠ _ ∧ t[(if _ then _ else _:Nat)]? ≠ _
        rw [if_neg hs]
        simpa using hs
  obtain ⟨s',hs',hrr,hno⟩:=hr
  refine ⟨fun he=>?_,fun he hdr=>?_,fun he hdr=>⟨s',by rcases hs' with rfl | rfl <;> rfl,?_⟩⟩
  · cases hc:t[q]? with
    | none=>exact rna_end hc
    | some c =>
      have h1:¬ c = 101 ∧ ¬ c = 69:=by simpa [e,hc] using he
      refine rna_off hc ?_
      by_cases h2:st = 2
      · subst h2
        have h46:¬ c = 46:=fun h=>by rw [h] at hc;cases hp hc
        simp [nxt,h1,h46]
      · have h3:=hd h2
        rw [dAt_of hc] at h3
        have h46:st = 3 → ¬ c = 46:=fun h' h=>by rw [h] at hc;rw [hp hc] at h';cases h'
        rcases hst with rfl | rfl | rfl
        · exact absurd rfl h2
        · simp [nxt,h1,h3,h46 rfl]
        · simp [nxt,h1,h3]
  · rw [hq he,hrr]
    obtain ⟨c,hc,hd8⟩:=dAt_some hdr
    have hcd:¬ c = 43 ∧ ¬ c = 45:=by
      constructor <;> (rintro rfl;revert hd8;decide)
    rw [rna_on (st':=8) hc (by rcases hs' with rfl | rfl <;> simp [nxt,hd8,hcd]),rna_8,ov_yes hdr]
  · rw [hq he,hrr]
    cases hc:t[r]? with
    | none=>exact rna_end hc
    | some c =>
      rw [dAt_of hc] at hdr
      refine rna_off hc ?_
      rcases hs' with rfl | rfl
      · have:=hno rfl
        rw [hc] at this
        have h1:¬ c = 43 ∧ ¬ c = 45:=by simpa using this
        simp [nxt,hdr,h1]
      · simp [nxt,hdr]
def numP (t:List UInt8):Nat × Bool :=
  if dAt t (p0 t) = false then (p0 t,false)
  else if pt t = true ∧ dAt t (p1 t + 1) = false then (p1 t + 1,false)
  else if hasE t = true ∧ dAt t (p3 t) = false then (p3 t,false)
  else (p4 t,true)
theorem rna_start (t:List UInt8):(dAt t (p0 t) = false ∧ ∃ st,ends st = false ∧ rna t 0 0 = (p0 t,st)) ∨
    (dAt t (p0 t) = true ∧ ∃ st,(st = 2 ∨ st = 3) ∧ rna t 0 0 = rna t st (p1 t) ∧ (st ≠ 2 → dAt t (p1 t) = false)):=by
  have h0:∃ st,(st = 0 ∨ st = 1) ∧ rna t 0 0 = rna t st (p0 t) ∧ (st = 0 → t[p0 t]? ≠ some 45):=by
    unfold p0
    by_cases h:t[0]? = some 45
    · rw [if_pos h];exact ⟨1,.inr rfl,rna_on h (by decide),fun h=>by cases h⟩
    · rw [if_neg h];exact ⟨0,.inl rfl,rfl,fun _=>h⟩
  obtain ⟨st,hst,hr,hm⟩:=h0
  cases hd:dAt t (p0 t) with
  | false =>
    refine .inl ⟨rfl,st,by rcases hst with rfl | rfl <;> rfl,?_⟩
    rw [hr]
    cases hc:t[p0 t]? with
    | none=>exact rna_end hc
    | some c =>
      rw [dAt_of hc] at hd
      have h48:¬ c = 48:=by rintro rfl;revert hd;decide
      refine rna_off hc ?_
      rcases hst with rfl | rfl
      · have:¬ c = 45:=by have:=hm rfl;rw [hc] at this;simpa using this
        simp [nxt,hd,h48,this]
      · simp [nxt,hd,h48]
  | true =>
    refine .inr ⟨rfl,?_⟩
    obtain ⟨c,hc,hd'⟩:=dAt_some hd
    have hc45:¬ c = 45:=by rintro rfl;revert hd';decide
    by_cases h48:c = 48
    · subst h48
      refine ⟨2,.inl rfl,?_,fun h=>absurd rfl h⟩
      rw [hr,rna_on (st':=2) hc (by rcases hst with rfl | rfl <;> decide)]
      unfold p1
      rw [if_pos hc]
    · refine ⟨3,.inr rfl,?_,fun _=>?_⟩
      · rw [hr,rna_on (st':=3) hc (by rcases hst with rfl | rfl <;> simp [nxt,hd',h48,hc45]),rna_dig (.inl rfl)]
        unfold p1
        rw [if_neg (by rw [hc];simpa using h48),ov_yes hd]
      · unfold p1
        rw [if_neg (by rw [hc];simpa using h48)]
        exact ov_end _ _
theorem rnum_numP (t:List UInt8):((rnum 0 t).1,ends (rnum 0 t).2) = numP t:=by
  have e0:rna t 0 0 = ((rnum 0 t).1,(rnum 0 t).2):=by unfold rna;rw [List.drop_zero,Nat.zero_add]
  rcases rna_start t with ⟨hd,st,he,hr⟩ | ⟨hd,st,hst,hr,hdd⟩
  · rw [e0] at hr
    injection hr with h1 h2
    rw [h1,h2,he]
    unfold numP
    rw [if_pos hd]
  · have key:∀ {k s':Nat},rna t st (p1 t) = (k,s') → ((rnum 0 t).1,ends (rnum 0 t).2) = (k,ends s'):=by
      intro k s' h
      rw [e0,h] at hr
      injection hr with h1 h2
      rw [h1,h2]
    unfold numP
    rw [if_neg (by rw [hd];decide)]
    by_cases hpt:pt t = true
    · have h46:t[p1 t]? = some 46:=by simpa [pt] using hpt
      have h4:rna t st (p1 t) = rna t 4 (p1 t + 1):=rna_on h46 (by rcases hst with rfl | rfl <;> decide)
      cases hd4:dAt t (p1 t + 1) with
      | false =>
        rw [if_pos ⟨hpt,rfl⟩]
        refine key (s':=4) ?_
        rw [h4]
        cases hc:t[p1 t + 1]? with
        | none=>exact rna_end hc
        | some c =>
          rw [dAt_of hc] at hd4
          exact rna_off hc (by simp [nxt,hd4])
      | true =>
        rw [if_neg (by simp)]
        obtain ⟨c,hc,hdc⟩:=dAt_some hd4
        have h5:rna t 4 (p1 t + 1) = rna t 5 (p2 t):=by
          rw [rna_on (st':=5) hc (by simp [nxt,hdc]),rna_dig (.inr (.inl rfl))]
          unfold p2
          rw [if_pos hpt,ov_yes hd4]
        have hde:dAt t (p2 t) = false:=by unfold p2;rw [if_pos hpt];exact ov_end _ _
        obtain ⟨g1,g2,g3⟩:=rna_exp (t:=t) (st:=5) (q:=p2 t) (.inr (.inr rfl)) (fun _=>hde) (fun _=>rfl)
        by_cases hE:hasE t = true
        · cases hd3:dAt t (p3 t) with
          | true =>
            rw [if_neg (by simp)]
            refine key (s':=8) ?_
            rw [h4,h5,g2 hE hd3]
            unfold p4
            rw [if_pos hE]
            rfl
          | false =>
            rw [if_pos ⟨hE,rfl⟩]
            obtain ⟨s',hs',h⟩:=g3 hE hd3
            rw [key (h4.trans (h5.trans h)),hs']
            rfl
        · have hE':hasE t = false:=by simpa using hE
          rw [if_neg (by simp [hE'])]
          refine key (s':=5) ?_
          rw [h4,h5,g1 hE']
          unfold p4
          rw [if_neg hE]
    · have hpt':pt t = false:=by simpa using hpt
      rw [if_neg (by simp [hpt'])]
      have e2:p2 t = p1 t:=by unfold p2;rw [if_neg hpt]
      have h46:t[p1 t]? ≠ some 46:=by simpa [pt] using hpt
      obtain ⟨g1,g2,g3⟩:=rna_exp (t:=t) (st:=st) (q:=p1 t) (by rcases hst with rfl | rfl;exact .inl rfl;exact .inr (.inl rfl)) hdd (fun h=>absurd h h46)
      have hes:ends st = true:=by rcases hst with rfl | rfl <;> rfl
      have hEq:hasE t = (t[p1 t]? == some 101 || t[p1 t]? == some 69):=by unfold hasE;rw [e2]
      have h3q:p3 t = (if t[p1 t + 1]? == some 43 || t[p1 t + 1]? == some 45 then p1 t + 2 else p1 t + 1):=by unfold p3 sgn;rw [e2]
      rw [← hEq,← h3q] at g2 g3
      rw [← hEq] at g1
      by_cases hE:hasE t = true
      · cases hd3:dAt t (p3 t) with
        | true =>
          rw [if_neg (by simp)]
          refine key (s':=8) ?_
          rw [g2 hE hd3]
          unfold p4
          rw [if_pos hE]
        | false =>
          rw [if_pos ⟨hE,rfl⟩]
          obtain ⟨s',hs',h⟩:=g3 hE hd3
          rw [key h,hs']
      · have hE':hasE t = false:=by simpa using hE
        rw [if_neg (by simp [hE']),key (g1 hE'),hes]
        unfold p4
        rw [if_neg hE,e2]
end Go.Proofs.YtgmholdkdppbmaaGreatDoor.Lx

namespace Go.Proofs.YtgmholdkdppbmaaGreatDoor.Lx
/-! ### Numbers: the bytes alone -/
theorem rnum_take:∀ (l:List UInt8) (st:Nat),rnum st (l.take (rnum st l).1) = rnum st l
  | [],st=>rfl
  | c :: l,st=>by
    cases h:nxt st c with
    | none=>rw [rnum_off l h];rfl
    | some st' =>
      rw [rnum_on l h]
      simp only [List.take_succ_cons]
      rw [rnum_on _ h,rnum_take l st']
theorem rnum_snoc {st':Nat} {c:UInt8}:∀ (l:List UInt8) (st st1:Nat),rnum st l = (l.length,st1) → nxt st1 c = some st' → rnum st (l ++ [c]) = (l.length + 1,st')
  | [],st,st1,h,hn=>by
    have:st = st1:=(Prod.mk.inj h).2
    subst this
    show rnum st [c] = _
    rw [rnum_on [] hn]
    rfl
  | d :: l,st,st1,h,hn=>by
    cases hd:nxt st d with
    | none=>rw [rnum_off l hd] at h;simp at h
    | some st2 =>
      rw [rnum_on l hd] at h
      have h1:rnum st2 l = (l.length,st1):=by
        have:=Prod.mk.inj h
        exact Prod.ext (by simpa using this.1) this.2
      rw [List.cons_append,rnum_on _ hd,rnum_snoc l st2 st1 h1 hn]
      simp
theorem wrong_none {raw:List UInt8} {st:Nat} (h:rnum 0 raw = (raw.length,st)) (he:ends st = true):wrongP raw = none:=by
  have hn:=rnum_numP raw
  rw [h] at hn
  simp only [he] at hn
  unfold numP at hn
  unfold wrongP
  split at hn
  · simp at hn
  rename_i h0
  rw [if_neg h0]
  split at hn
  · simp at hn
  rename_i h1
  rw [if_neg h1]
  split at hn
  · simp at hn
  rename_i h2
  rw [if_neg h2]
  have:raw.length = p4 raw:=(Prod.mk.inj hn).1
  rw [if_neg (by omega)]
/-! ### Words -/
def cpl:List UInt8 → List UInt8 → Nat
  | a :: l,b :: m=>if a = b then cpl l m + 1 else 0
  | _,_=>0
theorem cpl_le:∀ (a b:List UInt8),cpl a b ≤ a.length ∧ cpl a b ≤ b.length
  | [],_=>by simp [cpl]
  | _ :: _,[]=>by simp [cpl]
  | a :: l,b :: m=>by
    have:=cpl_le l m
    unfold cpl
    split <;> simp <;> omega
theorem run_word (fl:List UInt8 → Option Nat) (fr:Nat) (W:List UInt8):∀ (l:List UInt8) (p:Nat) (raw rest:List UInt8),wordOf (raw.getD 0 0) = W → W = raw ++ rest → raw ≠ [] → rest ≠ [] →
    run fl p (.word fr raw) l =
      if cpl rest l < rest.length then (if cpl rest l < l.length then ⟨[],.inr (94,p + cpl rest l,p + cpl rest l)⟩ else ⟨[],.inl (.word fr (raw ++ l))⟩)
      else (run fl (p + cpl rest l) .out (l.drop (cpl rest l))).pre [⟨fr,p + cpl rest l - fr,.term W⟩]
  | [],p,raw,rest,hW,he,hr,hs=>by
    have h0:cpl rest [] = 0:=by cases rest <;> rfl
    rw [h0,if_pos (List.length_pos_iff.2 hs),if_neg (by simp)]
    simp [run]
  | c :: l,p,raw,rest,hW,he,hr,hs=>by
    cases rest with
    | nil=>exact absurd rfl hs
    | cons d rest =>
      have hget:W[raw.length]? = some d:=by rw [he];simp
      by_cases hcd:d = c
      · subst hcd
        have hc:cpl (d :: rest) (d :: l) = cpl rest l + 1:=by simp [cpl]
        rw [hc]
        cases rest with
        | nil =>
          have hlen:raw.length + 1 = W.length:=by rw [he];simp
          have h0:cpl [] l = 0:=by cases l <;> rfl
          rw [h0,if_neg (by simp)]
          exact run_go l (by simp only [step,hW,hget,if_true,hlen])
        | cons e rest =>
          have hlen:¬ raw.length + 1 = W.length:=by rw [he];simp
          rw [run_go l (by simp only [step,hW,hget,if_true,hlen,if_false];rfl)]
          have hw2:wordOf ((raw ++ [d]).getD 0 0) = W:=by
            rw [← hW]
            cases raw with
            | nil=>exact absurd rfl hr
            | cons a raw=>rfl
          rw [run_word fl fr W l (p + 1) (raw ++ [d]) (e :: rest) hw2 (by rw [he];simp) (by simp) (by simp)]
          simp only [List.length_cons,Nat.add_lt_add_iff_right,List.append_assoc,List.singleton_append,List.drop_succ_cons,Nat.add_assoc,Nat.add_comm 1,Rn.pre_nil]
      · have hc:cpl (d :: rest) (c :: l) = 0:=by simp [cpl,hcd]
        rw [hc,if_pos (by simp),if_pos (by simp)]
        exact run_bad l (by simp only [step,hW,hget,Option.some.injEq,hcd,if_false];rfl)
/-! ### Escapes -/
def TM (fr:Nat):Md → Prop
  | .txt f _ _=>f = fr
  | .esc f _=>f = fr
  | .dig f _ _ _ _=>f = fr
  | .sla f _ _=>f = fr
  | .leu f _ _=>f = fr
  | _=>False
inductive R4 where
  | ok (n:Nat)
  | bad (no p:Nat)
  | cut
def four (low:Bool):Nat → Nat → Nat → List UInt8 → Nat → R4
  | 0,k,n,l,p=>.ok n
  | r + 1,k,n,[],p=>.cut
  | r + 1,k,n,c :: l,p=>match hexv c with
    | none=>.bad (if low = true then 93 else 92) p
    | some v=>if loneB low k n v = true then .bad 93 p else four low r (k + 1) (16 * n + v) l (p + 1)
theorem run_dig (fl:List UInt8 → Option Nat) (fr:Nat) (says:List UInt8) (high:Nat):∀ (r:Nat) (l:List UInt8) (p k code:Nat),k + (r + 1) = 4 →
    (∀ no q,four (high != 0) (r + 1) k code l p = .bad no q → run fl p (.dig fr says k code high) l = ⟨[],.inr (no,q,q)⟩) ∧
    (four (high != 0) (r + 1) k code l p = .cut → ∃ m,TM fr m ∧ run fl p (.dig fr says k code high) l = ⟨[],.inl m⟩) ∧
    (∀ v,four (high != 0) (r + 1) k code l p = .ok v → r + 1 ≤ l.length ∧ run fl p (.dig fr says k code high) l = run fl (p + (r + 1)) (wholeS fr says v high) (l.drop (r + 1)))
  | r,[],p,k,code,hk=>by
    refine ⟨fun no q h=>by simp [four] at h,fun _=>⟨.dig fr says k code high,rfl,rfl⟩,fun v h=>by simp [four] at h⟩
  | r,c :: l,p,k,code,hk=>by
    cases hv:hexv c with
    | none =>
      refine ⟨fun no q h=>?_,fun h=>by simp [four,hv] at h,fun v h=>by simp [four,hv] at h⟩
      simp only [four,hv] at h
      injection h with h1 h2
      subst h1 h2
      by_cases h0:high = 0
      · rw [run_bad l (no:=92) (q:=p) (t:=[]) (by simp only [step,hv,h0,if_true])]
        simp [h0]
      · rw [run_bad l (no:=93) (q:=p) (t:=[]) (by simp only [step,hv,h0,if_false])]
        simp [h0]
    | some v =>
      by_cases hl:loneB (high != 0) k code v = true
      · refine ⟨fun no q h=>?_,fun h=>by simp [four,hv,hl] at h,fun v h=>by simp [four,hv,hl] at h⟩
        simp only [four,hv,hl,if_true] at h
        injection h with h1 h2
        subst h1 h2
        exact run_bad l (by simp only [step,hv,hl,if_true])
      · have h4:four (high != 0) (r + 1) k code (c :: l) p = four (high != 0) r (k + 1) (16 * code + v) l (p + 1):=by simp only [four,hv,hl,if_false];rfl
        cases r with
        | zero =>
          have hk3:k = 3:=by omega
          have hrun:run fl p (.dig fr says k code high) (c :: l) = run fl (p + 1) (wholeS fr says (16 * code + v) high) l:=by
            rw [run_go l (m':=wholeS fr says (16 * code + v) high) (t:=[]) (by simp only [step,hv,hl,hk3,if_true,if_false];rw [hk3] at hl;simp [hl])]
            rfl
          rw [h4,hrun]
          refine ⟨fun no q h=>by simp [four] at h,fun h=>by simp [four] at h,fun v h=>?_⟩
          simp only [four] at h
          injection h with h1
          subst h1
          exact ⟨by simp,rfl⟩
        | succ r =>
          have hk3:¬ k = 3:=by omega
          have hrun:run fl p (.dig fr says k code high) (c :: l) = run fl (p + 1) (.dig fr says (k + 1) (16 * code + v) high) l:=by
            rw [run_go l (m':=.dig fr says (k + 1) (16 * code + v) high) (t:=[]) (by simp only [step,hv,hl,hk3,if_false];rfl)]
            rfl
          rw [h4,hrun]
          obtain ⟨g1,g2,g3⟩:=run_dig fl fr says high r l (p + 1) (k + 1) (16 * code + v) (by omega)
          refine ⟨g1,g2,fun v h=>?_⟩
          obtain ⟨h1,h2⟩:=g3 v h
          exact ⟨by simpa using h1,by rw [h2,List.drop_succ_cons];congr 1;omega⟩
inductive Pc where
  | ok (says:List UInt8) (n:Nat)
  | bad (no p:Nat)
  | cut
def escP:List UInt8 → Nat → Pc
  | _ :: c :: l,p=>if c = 117 then (match four false 4 0 0 l (p + 2) with
      | .cut=>.cut
      | .bad no q=>.bad no q
      | .ok n=>if n < 55296 ∨ 56319 < n then .ok (enc n) 6 else match l.drop 4 with
        | []=>.cut
        | d :: l3=>if d ≠ 92 then .bad 93 (p + 6) else match l3 with
          | []=>.cut
          | e :: l4=>if e ≠ 117 then .bad 93 (p + 7) else match four true 4 0 0 l4 (p + 8) with
            | .cut=>.cut
            | .bad no q=>.bad no q
            | .ok m=>.ok (enc (65536 + (n - 55296) * 1024 + (m - 56320))) 12)
    else match simp1 c with
      | none=>.bad 92 (p + 1)
      | some b=>.ok [b] 2
  | _,_=>.cut
theorem run_esc (fl:List UInt8 → Option Nat) (fr:Nat) (says:List UInt8) (l:List UInt8) (p:Nat) :
    (∀ no q,escP (92 :: l) p = .bad no q → run fl p (.txt fr says []) (92 :: l) = ⟨[],.inr (no,q,q)⟩) ∧
    (escP (92 :: l) p = .cut → ∃ m,TM fr m ∧ run fl p (.txt fr says []) (92 :: l) = ⟨[],.inl m⟩) ∧
    (∀ sy n,escP (92 :: l) p = .ok sy n → 0 < n ∧ n ≤ l.length + 1 ∧ run fl p (.txt fr says []) (92 :: l) = run fl (p + n) (.txt fr (says ++ sy) []) ((92 :: l).drop n)):=by
  have h1:run fl p (.txt fr says []) (92 :: l) = run fl (p + 1) (.esc fr says) l:=by
    rw [run_go l (m':=.esc fr says) (t:=[]) (by simp [step])];rfl
  rw [h1]
  cases l with
  | nil=>exact ⟨fun no q h=>by simp [escP] at h,fun _=>⟨.esc fr says,rfl,rfl⟩,fun sy n h=>by simp [escP] at h⟩
  | cons c l =>
    by_cases hu:c = 117
    · subst hu
      have h2:run fl (p + 1) (.esc fr says) (117 :: l) = run fl (p + 2) (.dig fr says 0 0 0) l:=by
        rw [run_go l (m':=.dig fr says 0 0 0) (t:=[]) (by simp [step])];rfl
      rw [h2]
      obtain ⟨g1,g2,g3⟩:=run_dig fl fr says 0 3 l (p + 2) 0 0 (by omega)
      have hz:((0:Nat) != 0) = false:=rfl
      rw [hz] at g1 g2 g3
      cases hf:four false 4 0 0 l (p + 2) with
      | cut=>exact ⟨fun no q h=>by simp [escP,hf] at h,fun _=>g2 hf,fun sy n h=>by simp [escP,hf] at h⟩
      | bad no q =>
        refine ⟨fun no' q' h=>?_,fun h=>by simp [escP,hf] at h,fun sy n h=>by simp [escP,hf] at h⟩
        simp only [escP,hf,if_true] at h
        injection h with h1 h2
        subst h1 h2
        exact g1 no q hf
      | ok n =>
        obtain ⟨hlen,hr⟩:=g3 n hf
        rw [hr]
        by_cases hn:n < 55296 ∨ 56319 < n
        · have hw:wholeS fr says n 0 = .txt fr (says ++ enc n) []:=by unfold wholeS;rw [if_neg (by simp),if_neg (by omega)]
          rw [hw]
          refine ⟨fun no q h=>by simp [escP,hf,hn] at h,fun h=>by simp [escP,hf,hn] at h,fun sy k h=>?_⟩
          simp only [escP,hf,if_true,hn] at h
          injection h with h1 h2
          subst h1 h2
          exact ⟨by omega,by simp;omega,rfl⟩
        · have hw:wholeS fr says n 0 = .sla fr says n:=by unfold wholeS;rw [if_neg (by simp),if_pos (by omega)]
          have hn0:(n != 0) = true:=by rw [bne_iff_ne];omega
          rw [hw]
          show _ ∧ _ ∧ _
          cases h4:l.drop 4 with
          | nil =>
            exact ⟨fun no q h=>by simp [escP,hf,hn,h4] at h,fun _=>⟨.sla fr says n,rfl,rfl⟩,fun sy k h=>by simp [escP,hf,hn,h4] at h⟩
          | cons d l3 =>
            have hl3:l.length = l3.length + 5:=by have:=congrArg List.length h4;simp at this;omega
            by_cases hd:d = 92
            · subst hd
              have h5:run fl (p + 2 + 4) (.sla fr says n) (92 :: l3) = run fl (p + 7) (.leu fr says n) l3:=by
                rw [run_go l3 (m':=.leu fr says n) (t:=[]) (by simp [step])];rfl
              have h5':run fl (p + 2 + (3 + 1)) (.sla fr says n) (92 :: l3) = run fl (p + 7) (.leu fr says n) l3:=h5
              rw [h5']
              cases l3 with
              | nil=>exact ⟨fun no q h=>by simp [escP,hf,hn,h4] at h,fun _=>⟨.leu fr says n,rfl,rfl⟩,fun sy k h=>by simp [escP,hf,hn,h4] at h⟩
              | cons e l4 =>
                by_cases he:e = 117
                · subst he
                  have h6:run fl (p + 7) (.leu fr says n) (117 :: l4) = run fl (p + 8) (.dig fr says 0 0 n) l4:=by
                    rw [run_go l4 (m':=.dig fr says 0 0 n) (t:=[]) (by simp [step])];rfl
                  rw [h6]
                  obtain ⟨k1,k2,k3⟩:=run_dig fl fr says n 3 l4 (p + 8) 0 0 (by omega)
                  rw [hn0] at k1 k2 k3
                  cases hm:four true 4 0 0 l4 (p + 8) with
                  | cut=>exact ⟨fun no q h=>by simp [escP,hf,hn,h4,hm] at h,fun _=>k2 hm,fun sy n h=>by simp [escP,hf,hn,h4,hm] at h⟩
                  | bad no q =>
                    refine ⟨fun no' q' h=>?_,fun h=>by simp [escP,hf,hn,h4,hm] at h,fun sy n h=>by simp [escP,hf,hn,h4,hm] at h⟩
                    have h':Pc.bad no q = Pc.bad no' q':=by simpa [escP,hf,hn,h4,hm] using h
                    injection h' with h1 h2
                    subst h1 h2
                    exact k1 no q hm
                  | ok m =>
                    obtain ⟨hlen4,hr4⟩:=k3 m hm
                    refine ⟨fun no q h=>by simp [escP,hf,hn,h4,hm] at h,fun h=>by simp [escP,hf,hn,h4,hm] at h,fun sy k h=>?_⟩
                    have h':Pc.ok (enc (65536 + (n - 55296) * 1024 + (m - 56320))) 12 = Pc.ok sy k:=by simpa [escP,hf,hn,h4,hm] using h
                    injection h' with h1 h2
                    subst h1 h2
                    simp only [List.length_cons] at hl3
                    refine ⟨by omega,by simp only [List.length_cons];omega,?_⟩
                    rw [hr4]
                    have hw2:wholeS fr says m n = .txt fr (says ++ enc (65536 + (n - 55296) * 1024 + (m - 56320))) []:=by unfold wholeS;rw [if_pos (by omega)]
                    rw [hw2]
                    have hdr:l4.drop 4 = (92 :: 117 :: l).drop 12:=by
                      have:l4 = l.drop 6:=by
                        have h:=congrArg (List.drop 2) h4
                        rw [List.drop_drop] at h
                        exact h.symm
                      rw [this,List.drop_drop];rfl
                    show run fl (p + 8 + 4) _ _ = _
                    rw [show (l4.drop (3 + 1)) = (92 :: 117 :: l).drop 12 from hdr]
                · refine ⟨fun no q h=>?_,fun h=>by simp [escP,hf,hn,h4,he] at h,fun sy n h=>by simp [escP,hf,hn,h4,he] at h⟩
                  have h':Pc.bad 93 (p + 7) = Pc.bad no q:=by simpa [escP,hf,hn,h4,he] using h
                  injection h' with h1 h2
                  subst h1 h2
                  exact run_bad l4 (by simp [step,he])
            · refine ⟨fun no q h=>?_,fun h=>by simp [escP,hf,hn,h4,hd] at h,fun sy n h=>by simp [escP,hf,hn,h4,hd] at h⟩
              have h':Pc.bad 93 (p + 6) = Pc.bad no q:=by simpa [escP,hf,hn,h4,hd] using h
              injection h' with h1 h2
              subst h1 h2
              exact run_bad l3 (by simp [step,hd])
    · cases hs:simp1 c with
      | none =>
        refine ⟨fun no q h=>?_,fun h=>by simp [escP,hu,hs] at h,fun sy n h=>by simp [escP,hu,hs] at h⟩
        have h':Pc.bad 92 (p + 1) = Pc.bad no q:=by simpa [escP,hu,hs] using h
        injection h' with h1 h2
        subst h1 h2
        exact run_bad l (by simp [step,hu,hs])
      | some b =>
        refine ⟨fun no q h=>by simp [escP,hu,hs] at h,fun h=>by simp [escP,hu,hs] at h,fun sy n h=>?_⟩
        have h':Pc.ok [b] 2 = Pc.ok sy n:=by simpa [escP,hu,hs] using h
        injection h' with h1 h2
        subst h1 h2
        refine ⟨by omega,by simp,?_⟩
        rw [run_go l (m':=.txt fr (says ++ [b]) []) (t:=[]) (by simp [step,hu,hs])]
        rfl
end Go.Proofs.YtgmholdkdppbmaaGreatDoor.Lx

namespace Go.Proofs.YtgmholdkdppbmaaGreatDoor.Lx
theorem drop_at {s:List UInt8} {i:Nat} (h:i < s.length):s.drop i = s[i] :: s.drop (i + 1):=List.drop_eq_getElem_cons h
/-! ### A character within a text -/
theorem run_held (fl:List UInt8 → Option Nat) (fr:Nat) (s:List UInt8) (i n:Nat) (hi:i < s.length) (hw:wd (bt s i) = n) (says:List UInt8):∀ (d k:Nat),1 ≤ k → k + d < n → i + k + d ≤ s.length →
    (∀ j,1 ≤ j → j < k + d → okb (bt s i) j (bt s (i + j)) = true) →
    run fl (i + k) (.txt fr (says ++ (s.drop i).take k) ((s.drop i).take k)) (s.drop (i + k)) = run fl (i + k + d) (.txt fr (says ++ (s.drop i).take (k + d)) ((s.drop i).take (k + d))) (s.drop (i + k + d))
  | 0,k,_,_,_,_=>rfl
  | d + 1,k,h1,h2,h3,hok=>by
    have hk:i + k < s.length:=by omega
    have hne:(s.drop i).take k ≠ []:=by
      rw [drop_at hi]
      obtain ⟨k',rfl⟩:∃ k',k = k' + 1:=⟨k - 1,by omega⟩
      rw [List.take_succ_cons]
      exact List.cons_ne_nil _ _
    have htk:tk ((s.drop i).take k) s[i + k] = some ((s.drop i).take (k + 1)):=by
      have hl:((s.drop i).take k).length = k:=by simp;omega
      have e1:(s.drop i).take (k + 1) = (s.drop i).take k ++ [s[i + k]]:=by
        rw [List.take_succ_eq_append_getElem (by simp;omega)]
        simp
      rw [e1]
      obtain ⟨k',rfl⟩:∃ k',k = k' + 1:=⟨k - 1,by omega⟩
      rw [drop_at hi,List.take_succ_cons]
      have hl2:((s.drop (i + 1)).take k').length = k':=by simp;omega
      have ho:=hok (k' + 1) h1 (by omega)
      rw [bt_get s i hi,bt_get s (i + (k' + 1)) hk] at ho
      rw [bt_get s i hi] at hw
      simp only [tk,hl2,ho,if_true]
      rw [if_neg (by omega)]
    rw [drop_at hk,run_go _ (m':=.txt fr (says ++ (s.drop i).take (k + 1)) ((s.drop i).take (k + 1))) (t:=[])]
    · rw [Rn.pre_nil]
      have ih:=run_held fl fr s i n hi hw says d (k + 1) (by omega) (by omega) (by omega) (fun j a b=>hok j a (by omega))
      rw [show i + k + 1 = i + (k + 1) by omega,ih,show i + (k + 1) + d = i + k + (d + 1) by omega,show k + 1 + d = k + (d + 1) by omega]
    · have e1:(s.drop i).take (k + 1) = (s.drop i).take k ++ [s[i + k]]:=by
        rw [List.take_succ_eq_append_getElem (by simp;omega)]
        simp
      simp only [step,hne,false_and,if_false,htk]
      rw [e1,List.append_assoc]
def piece (s:List UInt8) (i:Nat):Pc :=
  if bt s i = 92 then escP (s.drop i) i
  else if bt s i < 32 then .bad 91 i
  else if (chAt s i).e = 0 then .ok ((s.drop i).take (chAt s i).n) (chAt s i).n
  else if (chAt s i).e = 31 then .cut
  else .bad 90 (chAt s i).p
theorem run_piece (fl:List UInt8 → Option Nat) (fr:Nat) (says s:List UInt8) (i:Nat) (hi:i < s.length) (hq:s[i] ≠ 34) :
    (∀ no q,piece s i = .bad no q → run fl i (.txt fr says []) (s.drop i) = ⟨[],.inr (no,q,q)⟩) ∧
    (piece s i = .cut → ∃ m,TM fr m ∧ run fl i (.txt fr says []) (s.drop i) = ⟨[],.inl m⟩) ∧
    (∀ sy n,piece s i = .ok sy n → 0 < n ∧ i + n ≤ s.length ∧ run fl i (.txt fr says []) (s.drop i) = run fl (i + n) (.txt fr (says ++ sy) []) (s.drop (i + n))):=by
  have hb:bt s i = s[i].toNat:=bt_get s i hi
  by_cases h92:s[i] = 92
  · have hp:piece s i = escP (92 :: s.drop (i + 1)) i:=by
      unfold piece
      rw [if_pos (by rw [hb,h92];rfl),drop_at hi,h92]
    rw [hp,drop_at hi,h92]
    obtain ⟨g1,g2,g3⟩:=run_esc fl fr says (s.drop (i + 1)) i
    refine ⟨g1,g2,fun sy n h=>?_⟩
    obtain ⟨k1,k2,k3⟩:=g3 sy n h
    refine ⟨k1,by simp at k2;omega,?_⟩
    rw [k3,← h92,← drop_at hi,List.drop_drop]
  have hne:¬ bt s i = 92:=by
    rw [hb]
    intro h
    exact h92 (UInt8.toNat_inj.1 h)
  by_cases h32:bt s i < 32
  · have hp:piece s i = .bad 91 i:=by unfold piece;rw [if_neg hne,if_pos h32]
    refine ⟨fun no q h=>?_,fun h=>(by rw [hp] at h;cases h),fun sy n h=>(by rw [hp] at h;cases h)⟩
    rw [hp] at h
    injection h with h1 h2
    subst h1 h2
    rw [drop_at hi]
    exact run_bad _ (by rw [hb] at h32;simp [step,hq,h92,h32])
  have hstep:∀ h',tk [] s[i] = some h' → step fl i (.txt fr says []) s[i] = .go (.txt fr (says ++ [s[i]]) h') []:=by
    intro h' ht
    rw [hb] at h32
    simp [step,hq,h92,h32,ht]
  have hstep0:tk [] s[i] = none → step fl i (.txt fr says []) s[i] = .bad 90 i []:=by
    intro ht
    rw [hb] at h32
    simp [step,hq,h92,h32,ht]
  have hpc:piece s i = if (chAt s i).e = 0 then .ok ((s.drop i).take (chAt s i).n) (chAt s i).n else if (chAt s i).e = 31 then .cut else .bad 90 (chAt s i).p:=by
    unfold piece;rw [if_neg hne,if_neg h32]
  by_cases hw0:wd (bt s i) = 0
  · have hc:=chAt_none hw0
    rw [hc] at hpc
    simp at hpc
    refine ⟨fun no q h=>?_,fun h=>(by rw [hpc] at h;cases h),fun sy n h=>(by rw [hpc] at h;cases h)⟩
    rw [hpc] at h
    injection h with h1 h2
    subst h1 h2
    rw [drop_at hi]
    exact run_bad _ (hstep0 (by rw [hb] at hw0;simp [tk,hw0]))
  by_cases hw1:wd (bt s i) = 1
  · have hc:chAt s i = ⟨code s i 1,1,0,0⟩:=chAt_ok hw1 (by omega) (firstBad_end (Nat.le_refl _))
    rw [hc] at hpc
    simp at hpc
    refine ⟨fun no q h=>(by rw [hpc] at h;cases h),fun h=>(by rw [hpc] at h;cases h),fun sy n h=>?_⟩
    rw [hpc] at h
    injection h with h1 h2
    subst h1 h2
    refine ⟨by omega,by omega,?_⟩
    have ht1:(s.drop i).take 1 = [s[i]]:=by rw [drop_at hi];rfl
    rw [ht1,drop_at hi,run_go _ (hstep [] (by rw [hb] at hw1;simp [tk,hw1]))]
    rfl
  -- a form of more than one byte
  obtain ⟨N,hN⟩:∃ N,wd (bt s i) = N:=⟨_,rfl⟩
  have hN2:2 ≤ N:=by omega
  obtain ⟨f,hf⟩:∃ f,firstBad s i N 1 = f:=⟨_,rfl⟩
  obtain ⟨f1,f2,f3,f4⟩:=firstBad_spec s i N 1 (by omega)
  rw [hf] at f1 f2 f3 f4
  have hfirst:run fl i (.txt fr says []) (s.drop i) = run fl (i + 1) (.txt fr (says ++ (s.drop i).take 1) ((s.drop i).take 1)) (s.drop (i + 1)):=by
    have ht1:(s.drop i).take 1 = [s[i]]:=by rw [drop_at hi];rfl
    rw [ht1,drop_at hi,run_go _ (hstep [s[i]] (by rw [hb] at hN;simp [tk];omega))]
    rfl
  by_cases hfN:f = N
  · subst hfN
    have hc:chAt s i = ⟨code s i f,f,0,0⟩:=chAt_ok hN (by omega) hf
    rw [hc] at hpc
    simp at hpc
    refine ⟨fun no q h=>(by rw [hpc] at h;cases h),fun h=>(by rw [hpc] at h;cases h),fun sy n h=>?_⟩
    rw [hpc] at h
    injection h with h1 h2
    subst h1 h2
    have hlast:=(f3 (f - 1) (by omega) (by omega))
    refine ⟨by omega,by omega,?_⟩
    have hh:=run_held fl fr s i f hi hN says (f - 1 - 1) 1 (by omega) (by omega) (by omega) (fun j a b=>(f3 j a (by omega)).2)
    rw [hfirst,hh,show i + 1 + (f - 1 - 1) = i + (f - 1) by omega,show 1 + (f - 1 - 1) = f - 1 by omega]
    have hl:i + (f - 1) < s.length:=hlast.1
    have e1:(s.drop i).take f = (s.drop i).take (f - 1) ++ [s[i + (f - 1)]]:=by
      conv=>lhs;rw [show f = (f - 1) + 1 by omega]
      rw [List.take_succ_eq_append_getElem (by simp;omega)]
      simp
    have hne2:(s.drop i).take (f - 1) ≠ []:=by
      rw [drop_at hi]
      obtain ⟨k',hk'⟩:∃ k',f - 1 = k' + 1:=⟨f - 2,by omega⟩
      rw [hk',List.take_succ_cons]
      exact List.cons_ne_nil _ _
    have htk:tk ((s.drop i).take (f - 1)) s[i + (f - 1)] = some []:=by
      obtain ⟨k',hk'⟩:∃ k',f - 1 = k' + 1:=⟨f - 2,by omega⟩
      have ho:=hlast.2
      rw [bt_get s i hi,bt_get s (i + (f - 1)) hl] at ho
      rw [bt_get s i hi] at hN
      have hl2:((s.drop (i + 1)).take k').length = k':=by simp;omega
      generalize hcc:s[i + (f - 1)] = cc at *
      rw [hk'] at ho ⊢
      rw [drop_at hi,List.take_succ_cons]
      simp only [tk,hl2,ho,if_true]
      rw [if_pos (by omega)]
    rw [drop_at hl,run_go _ (m':=.txt fr (says ++ (s.drop i).take f) []) (t:=[])]
    · rw [Rn.pre_nil,show i + (f - 1) + 1 = i + f by omega]
    · simp only [step,hne2,false_and,if_false,htk]
      rw [e1,List.append_assoc]
  · have hfl:f < N:=by omega
    have hbad:=f4 hfl
    have hh:=fun (hle:i + 1 + (f - 1) ≤ s.length)=>run_held fl fr s i N hi hN says (f - 1) 1 (by omega) (by omega) hle (fun j a b=>(f3 j a (by omega)).2)
    have hle:i + f ≤ s.length:=by
      by_cases h1:f = 1
      · omega
      · have:=(f3 (f - 1) (by omega) (by omega)).1;omega
    have hh:=hh (by omega)
    rw [show i + 1 + (f - 1) = i + f by omega,show 1 + (f - 1) = f by omega] at hh
    rw [hfirst,hh]
    by_cases hl:i + f < s.length
    · have hc:=chAt_byte hN (by omega) hf hfl hl
      rw [hc] at hpc
      simp at hpc
      refine ⟨fun no q h=>?_,fun h=>(by rw [hpc] at h;cases h),fun sy n h=>(by rw [hpc] at h;cases h)⟩
      rw [hpc] at h
      injection h with h1 h2
      subst h1 h2
      have hok:¬ okb (bt s i) f (bt s (i + f)) = true:=fun h=>hbad ⟨hl,h⟩
      have hne2:(s.drop i).take f ≠ []:=by
        rw [drop_at hi]
        obtain ⟨k',hk'⟩:∃ k',f = k' + 1:=⟨f - 1,by omega⟩
        rw [hk',List.take_succ_cons]
        exact List.cons_ne_nil _ _
      have htk:tk ((s.drop i).take f) s[i + f] = none:=by
        obtain ⟨k',rfl⟩:∃ k',f = k' + 1:=⟨f - 1,by omega⟩
        rw [bt_get s i hi,bt_get s (i + (k' + 1)) hl] at hok
        have hl2:((s.drop (i + 1)).take k').length = k':=by simp;omega
        generalize hcc:s[i + (k' + 1)] = cc at *
        rw [drop_at hi,List.take_succ_cons]
        simp only [tk,hl2]
        rw [if_neg hok]
      rw [drop_at hl]
      exact run_bad _ (by simp only [step,hne2,false_and,if_false,htk])
    · have hc:=chAt_cut hN (by omega) hf hfl hl
      rw [hc] at hpc
      simp at hpc
      refine ⟨fun no q h=>(by rw [hpc] at h;cases h),fun _=>⟨.txt fr (says ++ (s.drop i).take f) ((s.drop i).take f),rfl,?_⟩,fun sy n h=>(by rw [hpc] at h;cases h)⟩
      rw [List.drop_eq_nil_of_le (show s.length ≤ i + f by omega)]
      rfl
inductive Tx where
  | ok (says:List UInt8) (to:Nat)
  | bad (no p:Nat)
  | cut
def txtF (s:List UInt8) (i:Nat) (says:List UInt8):Tx :=
  if h:i < s.length then (if s[i] = 34 then .ok says (i + 1) else match piece s i with
    | .ok sy n=>txtF s (i + (n - 1) + 1) (says ++ sy)
    | .bad no p=>.bad no p
    | .cut=>.cut) else .cut
termination_by s.length - i
theorem txtF_end {s:List UInt8} {i:Nat} {says:List UInt8} (h:s.length ≤ i):txtF s i says = .cut:=by rw [txtF,dif_neg (by omega)]
theorem txtF_quote {s:List UInt8} {i:Nat} {says:List UInt8} (h:i < s.length) (hq:s[i] = 34):txtF s i says = .ok says (i + 1):=by rw [txtF,dif_pos h,if_pos hq]
theorem txtF_ok {s:List UInt8} {i n:Nat} {says sy:List UInt8} (h:i < s.length) (hq:s[i] ≠ 34) (hp:piece s i = .ok sy n) (hn:0 < n):txtF s i says = txtF s (i + n) (says ++ sy):=by
  rw [txtF,dif_pos h,if_neg hq,hp]
  simp only []
  congr 1
  omega
theorem txtF_bad {s:List UInt8} {i no p:Nat} {says:List UInt8} (h:i < s.length) (hq:s[i] ≠ 34) (hp:piece s i = .bad no p):txtF s i says = .bad no p:=by rw [txtF,dif_pos h,if_neg hq,hp]
theorem txtF_cut {s:List UInt8} {i:Nat} {says:List UInt8} (h:i < s.length) (hq:s[i] ≠ 34) (hp:piece s i = .cut):txtF s i says = .cut:=by rw [txtF,dif_pos h,if_neg hq,hp]
theorem run_txt (fl:List UInt8 → Option Nat) (fr:Nat) (s:List UInt8) (i:Nat) (says:List UInt8) (hi:i ≤ s.length) :
    (∀ no q,txtF s i says = .bad no q → run fl i (.txt fr says []) (s.drop i) = ⟨[],.inr (no,q,q)⟩) ∧
    (txtF s i says = .cut → ∃ m,TM fr m ∧ run fl i (.txt fr says []) (s.drop i) = ⟨[],.inl m⟩) ∧
    (∀ sy to,txtF s i says = .ok sy to → i < to ∧ to ≤ s.length ∧ run fl i (.txt fr says []) (s.drop i) = (run fl to .out (s.drop to)).pre [⟨fr,to - fr,.str sy⟩]):=by
  generalize hn:s.length - i = n
  induction n using Nat.strongRecOn generalizing i says with
  | ind n ih =>
    by_cases hl:i < s.length
    · by_cases hq:s[i] = 34
      · have ht:=txtF_quote (says:=says) hl hq
        refine ⟨fun no q h=>(by rw [ht] at h;cases h),fun h=>(by rw [ht] at h;cases h),fun sy to h=>?_⟩
        rw [ht] at h
        injection h with h1 h2
        subst h1 h2
        refine ⟨by omega,by omega,?_⟩
        rw [drop_at hl,hq]
        exact run_go _ (by simp [step])
      · obtain ⟨g1,g2,g3⟩:=run_piece fl fr says s i hl hq
        cases hp:piece s i with
        | ok sy n' =>
          obtain ⟨k1,k2,k3⟩:=g3 sy n' hp
          rw [txtF_ok hl hq hp k1,k3]
          obtain ⟨j1,j2,j3⟩:=ih (s.length - (i + n')) (by omega) (i + n') (says ++ sy) k2 rfl
          exact ⟨j1,j2,fun sy to h=>⟨by have:=(j3 sy to h).1;omega,(j3 sy to h).2⟩⟩
        | bad no p =>
          rw [txtF_bad hl hq hp]
          refine ⟨fun no q h=>?_,fun h=>by (cases h),fun sy to h=>by (cases h)⟩
          injection h with h1 h2
          subst h1 h2
          exact g1 _ _ hp
        | cut =>
          rw [txtF_cut hl hq hp]
          exact ⟨fun no q h=>(by cases h),fun _=>g2 hp,fun sy to h=>(by cases h)⟩
    · rw [txtF_end (by omega),List.drop_eq_nil_of_le (by omega)]
      exact ⟨fun no q h=>(by cases h),fun _=>⟨.txt fr says [],rfl,rfl⟩,fun sy to h=>(by cases h)⟩
end Go.Proofs.YtgmholdkdppbmaaGreatDoor.Lx

namespace Go.Proofs.YtgmholdkdppbmaaGreatDoor.Lx
inductive It where
  | skip
  | tok (t:Tok) (to:Nat)
  | bad (no p f:Nat)
  | cut
def wordI (s:List UInt8) (i:Nat) (W:List UInt8):It :=
  if cpl W (s.drop i) < W.length then (if i + cpl W (s.drop i) < s.length then .bad 94 (i + cpl W (s.drop i)) (i + cpl W (s.drop i)) else .cut)
  else .tok ⟨i,cpl W (s.drop i),.term W⟩ (i + cpl W (s.drop i))
def txtI (s:List UInt8) (i:Nat):It:=match txtF s (i + 1) [] with
  | .ok sy to=>.tok ⟨i,to - i,.str sy⟩ to
  | .bad no p=>.bad no p p
  | .cut=>.cut
def numI (fl:List UInt8 → Option Nat) (s:List UInt8) (en:Bool) (i:Nat):It :=
  if (numP (s.drop i)).2 = false ∧ i + (numP (s.drop i)).1 < s.length then .bad 94 (i + (numP (s.drop i)).1) (i + (numP (s.drop i)).1)
  else if (numP (s.drop i)).2 = false ∨ (i + (numP (s.drop i)).1 = s.length ∧ en = false) then .cut
  else match fl ((s.drop i).take (numP (s.drop i)).1) with
    | none=>.bad 41 i (i + (numP (s.drop i)).1)
    | some b=>.tok ⟨i,(numP (s.drop i)).1,.num b⟩ (i + (numP (s.drop i)).1)
def item (fl:List UInt8 → Option Nat) (s:List UInt8) (en:Bool) (i:Nat):It :=
  if blankB (s.getD i 0) = true then .skip
  else if markB (s.getD i 0) = true then .tok ⟨i,1,.mark (s.getD i 0)⟩ (i + 1)
  else if wordOf (s.getD i 0) ≠ [] then wordI s i (wordOf (s.getD i 0))
  else if s.getD i 0 = 34 then txtI s i
  else if s.getD i 0 ≠ 45 ∧ isD (s.getD i 0) = false then .bad 94 i i
  else numI fl s en i
def endM (fl:List UInt8 → Option Nat) (p:Nat):Md → List Tok × (Nat × Nat)
  | .out=>([],0,0)
  | .num fr st raw=>if ends st = true then (match fl raw with
      | some b=>([⟨fr,p - fr,.num b⟩],0,0)
      | none=>([],41,fr)) else ([],95,p)
  | _=>([],95,p)
def frM:Md → Option Nat
  | .out=>none
  | .num fr _ _=>some fr
  | .word fr _=>some fr
  | .txt fr _ _=>some fr
  | .esc fr _=>some fr
  | .dig fr _ _ _ _=>some fr
  | .sla fr _ _=>some fr
  | .leu fr _ _=>some fr
def heldM (p:Nat) (m:Md):Nat:=match frM m with
  | none=>0
  | some fr=>p - fr
theorem TM.fr {fr:Nat} {m:Md} (h:TM fr m):frM m = some fr:=by
  cases m <;> simp [TM] at h <;> simp [frM,h]
theorem TM.fin {fr:Nat} {m:Md} (h:TM fr m) (fl:List UInt8 → Option Nat) (p:Nat):endM fl p m = ([],95,p):=by
  cases m <;> simp [TM] at h <;> rfl
def ItR (fl:List UInt8 → Option Nat) (s:List UInt8) (i:Nat):It → It → Prop
  | .skip,e=>e = .skip ∧ run fl i .out (s.drop i) = run fl (i + 1) .out (s.drop (i + 1))
  | .tok t to,e=>e = .tok t to ∧ i < to ∧ to ≤ s.length ∧ t.pos = i ∧ t.size = to - i ∧ run fl i .out (s.drop i) = (run fl to .out (s.drop to)).pre [t]
  | .bad no p f,e=>e = .bad no p f ∧ no ≠ 0 ∧ run fl i .out (s.drop i) = ⟨[],.inr (no,p,f)⟩
  | .cut,e=>∃ m,run fl i .out (s.drop i) = ⟨[],.inl m⟩ ∧ frM m = some i ∧ (match e with
      | .tok t to=>endM fl s.length m = ([t],0,0) ∧ to = s.length ∧ t.pos = i ∧ t.size = to - i ∧ i < to
      | .bad no p f=>endM fl s.length m = ([],no,p) ∧ no ≠ 0 ∧ f = s.length
      | .cut=>endM fl s.length m = ([],95,s.length)
      | .skip=>False)
theorem mark_not {c:UInt8} (h:markB c = true):blankB c = false:=by
  unfold markB at h
  simp at h
  rcases h with ((((rfl | rfl) | rfl) | rfl) | rfl) | rfl <;> decide
theorem word_not {c:UInt8} (h:wordOf c ≠ []):blankB c = false ∧ markB c = false ∧ c ≠ 34 ∧ c ≠ 45 ∧ isD c = false ∧ ∃ W,wordOf c = c :: W ∧ W ≠ []:=by
  unfold wordOf at h
  split at h
  · rename_i hx;subst hx;exact ⟨by decide,by decide,by decide,by decide,by decide,_,rfl,by decide⟩
  split at h
  · rename_i hx;subst hx;exact ⟨by decide,by decide,by decide,by decide,by decide,_,rfl,by decide⟩
  split at h
  · rename_i hx;subst hx;exact ⟨by decide,by decide,by decide,by decide,by decide,_,rfl,by decide⟩
  · exact absurd rfl h
theorem four_no (low:Bool):∀ (r k n:Nat) (l:List UInt8) (p no q:Nat),four low r k n l p = .bad no q → no ≠ 0
  | 0,_,_,_,_,_,_,h=>by simp [four] at h
  | _ + 1,_,_,[],_,_,_,h=>by simp [four] at h
  | r + 1,k,n,c :: l,p,no,q,h=>by
    unfold four at h
    split at h
    · injection h with h1 h2
      subst h1
      split <;> decide
    · split at h
      · injection h with h1 h2
        subst h1
        decide
      · exact four_no low r _ _ l _ no q h
theorem escP_no (l:List UInt8) (p no q:Nat) (h:escP l p = .bad no q):no ≠ 0:=by
  unfold escP at h
  split at h
  · split at h
    · split at h
      · cases h
      · rename_i hf
        injection h with h1 h2
        subst h1
        exact four_no _ _ _ _ _ _ _ _ hf
      · split at h
        · cases h
        · split at h
          · cases h
          · split at h
            · injection h with h1 h2;subst h1;decide
            · split at h
              · cases h
              · split at h
                · injection h with h1 h2;subst h1;decide
                · split at h
                  · cases h
                  · rename_i hf
                    injection h with h1 h2
                    subst h1
                    exact four_no _ _ _ _ _ _ _ _ hf
                  · cases h
    · split at h
      · injection h with h1 h2;subst h1;decide
      · cases h
  · cases h
theorem piece_no (s:List UInt8) (i no q:Nat) (h:piece s i = .bad no q):no ≠ 0:=by
  unfold piece at h
  split at h
  · exact escP_no _ _ _ _ h
  split at h
  · injection h with h1 h2;subst h1;decide
  split at h
  · cases h
  split at h
  · cases h
  · injection h with h1 h2;subst h1;decide
theorem txtF_no (s:List UInt8) (i:Nat) (says:List UInt8) (no q:Nat) (h:txtF s i says = .bad no q):no ≠ 0:=by
  generalize hn:s.length - i = n
  induction n using Nat.strongRecOn generalizing i says with
  | ind n ih =>
    rw [txtF] at h
    split at h
    · split at h
      · cases h
      · split at h
        · exact ih _ (by omega) _ _ h rfl
        · rename_i hp
          injection h with h1 h2
          subst h1
          exact piece_no _ _ _ _ hp
        · cases h
    · cases h
theorem getD_at {s:List UInt8} {i:Nat} (h:i < s.length):s.getD i 0 = s[i]:=by simp [List.getD,h]
theorem run_item (fl:List UInt8 → Option Nat) (s:List UInt8) (i:Nat) (hi:i < s.length):ItR fl s i (item fl s false i) (item fl s true i):=by
  unfold item
  rw [getD_at hi]
  have hd:=drop_at hi
  obtain ⟨c,hc⟩:∃ c,s[i] = c:=⟨_,rfl⟩
  rw [hc] at hd ⊢
  by_cases hb:blankB c = true
  · rw [if_pos hb,if_pos hb]
    refine ⟨rfl,?_⟩
    rw [hd,run_go _ (m':=.out) (t:=[]) (by simp [step,outS,hb])]
    rfl
  rw [if_neg hb,if_neg hb]
  by_cases hm:markB c = true
  · rw [if_pos hm,if_pos hm]
    refine ⟨rfl,by omega,by omega,rfl,?_,?_⟩
    · show 1 = i + 1 - i;omega
    rw [hd]
    exact run_go _ (by simp [step,outS,hb,hm])
  rw [if_neg hm,if_neg hm]
  by_cases hw:wordOf c ≠ []
  · rw [if_pos hw,if_pos hw]
    obtain ⟨_,_,h34,h45,hdd,W,hW,hW0⟩:=word_not hw
    have h1:run fl i .out (s.drop i) = run fl (i + 1) (.word i [c]) (s.drop (i + 1)):=by
      rw [hd,run_go _ (m':=.word i [c]) (t:=[]) (by simp [step,outS,hb,hm,h34,h45,hdd,hw])]
      rfl
    have hr:=run_word fl i (wordOf c) (s.drop (i + 1)) (i + 1) [c] W rfl (by rw [hW];rfl) (by simp) hW0
    have hcp:cpl (wordOf c) (s.drop i) = cpl W (s.drop (i + 1)) + 1:=by rw [hW,hd];simp [cpl]
    have hWl:(wordOf c).length = W.length + 1:=by rw [hW];rfl
    have hcl:=cpl_le W (s.drop (i + 1))
    have hdl:(s.drop (i + 1)).length = s.length - (i + 1):=by simp
    rw [h1.symm] at hr
    unfold wordI
    rw [hcp,hWl]
    obtain ⟨K,hK⟩:∃ K,cpl W (s.drop (i + 1)) = K:=⟨_,rfl⟩
    rw [hK] at hr hcl ⊢
    by_cases hk:K < W.length
    · rw [if_pos hk] at hr
      rw [if_pos (by omega)]
      by_cases hl:i + (K + 1) < s.length
      · rw [if_pos (by omega)] at hr
        rw [if_pos hl]
        exact ⟨rfl,by omega,by rw [hr];simp only [Rn.mk.injEq,true_and,Sum.inr.injEq,Prod.mk.injEq];omega⟩
      · rw [if_neg (by omega)] at hr
        rw [if_neg hl]
        exact ⟨_,hr,rfl,rfl⟩
    · rw [if_neg hk] at hr
      rw [if_neg (by omega)]
      refine ⟨rfl,by omega,by omega,rfl,?_,?_⟩
      · show K + 1 = i + (K + 1) - i;omega
      rw [hr,List.drop_drop]
      rw [show i + 1 + K = i + (K + 1) by omega,show i + (K + 1) - i = K + 1 by omega]
  rw [if_neg hw,if_neg hw]
  by_cases hq:c = 34
  · subst hq
    rw [if_pos rfl,if_pos rfl]
    have h1:run fl i .out (s.drop i) = run fl (i + 1) (.txt i [] []) (s.drop (i + 1)):=by
      rw [hd,run_go _ (m':=.txt i [] []) (t:=[]) (by simp [step,outS,hb,hm])]
      rfl
    obtain ⟨g1,g2,g3⟩:=run_txt fl i s (i + 1) [] (by omega)
    unfold txtI
    cases ht:txtF s (i + 1) [] with
    | ok sy to =>
      obtain ⟨k1,k2,k3⟩:=g3 sy to ht
      exact ⟨rfl,by omega,k2,rfl,rfl,h1.trans k3⟩
    | bad no p =>
      have hg:=g1 no p ht
      refine ⟨rfl,?_,h1.trans hg⟩
      exact txtF_no s (i + 1) [] no p ht
    | cut =>
      obtain ⟨m,hm',hr⟩:=g2 ht
      exact ⟨m,h1.trans hr,hm'.fr,hm'.fin fl _⟩
  rw [if_neg hq,if_neg hq]
  by_cases hn:c ≠ 45 ∧ isD c = false
  · rw [if_pos hn,if_pos hn]
    refine ⟨rfl,by omega,?_⟩
    rw [hd]
    exact run_bad _ (by simp [step,outS,hb,hm,hq,hn,Classical.not_not.1 hw])
  rw [if_neg hn,if_neg hn]
  have hn':c = 45 ∨ isD c = true:=by
    by_cases h45:c = 45
    · exact .inl h45
    · exact .inr (by simpa [h45] using hn)
  obtain ⟨st,hst⟩:∃ st,nxt 0 c = some st:=by
    rcases hn' with rfl | h
    · exact ⟨1,by decide⟩
    · by_cases h48:c = 48
      · subst h48;exact ⟨2,by decide⟩
      · have h45:¬ c = 45:=by rintro rfl;revert h;decide
        exact ⟨3,by simp [nxt,h48,h,h45]⟩
  have h1:run fl i .out (s.drop i) = run fl (i + 1) (.num i st [c]) (s.drop (i + 1)):=by
    rw [hd,run_go _ (m':=.num i st [c]) (t:=[]) (by simp only [step,outS,hb,hm,hq,hn',hst,if_true,if_false,Option.getD_some];rfl)]
    rfl
  have hr:=run_num fl (s.drop (i + 1)) (i + 1) i st [c]
  have hrn:rnum 0 (s.drop i) = ((rnum st (s.drop (i + 1))).1 + 1,(rnum st (s.drop (i + 1))).2):=by rw [hd];exact rnum_on _ hst
  have hP:=rnum_numP (s.drop i)
  rw [hrn] at hP
  have hle:=rnum_le (s.drop (i + 1)) st
  have hdl:(s.drop (i + 1)).length = s.length - (i + 1):=by simp
  rw [← h1,hdl] at hr
  rw [hdl] at hle
  obtain ⟨K,S,hK⟩:∃ K S,rnum st (s.drop (i + 1)) = (K,S):=⟨_,_,rfl⟩
  rw [hK] at hr hP hle
  simp only at hr hP hle
  have htake:[c] ++ (s.drop (i + 1)).take K = (s.drop i).take (K + 1):=by rw [hd];rfl
  rw [htake] at hr
  unfold numI
  rw [← hP]
  simp only
  by_cases hend:K = s.length - (i + 1)
  · rw [if_pos hend] at hr
    have hall:[c] ++ s.drop (i + 1) = (s.drop i).take (K + 1):=by
      rw [← htake]
      congr 1
      rw [List.take_of_length_le (by simp;omega)]
    rw [hall] at hr
    have hA:i + (K + 1) = s.length:=by omega
    have hB:¬ i + (K + 1) < s.length:=by omega
    rw [if_neg (fun h=>hB h.2),if_pos (Or.inr ⟨hA,trivial⟩)]
    refine ⟨_,hr,rfl,?_⟩
    cases he:ends S with
    | false =>
      rw [if_neg (fun h=>hB h.2),if_pos (.inl rfl)]
      simp only [endM,he]
      rfl
    | true =>
      rw [if_neg (fun h=>hB h.2),if_neg (by simp)]
      cases hf:fl ((s.drop i).take (K + 1)) with
      | none =>
        simp only [endM,he,if_true,hf]
        exact ⟨trivial,by omega,by omega⟩
      | some b =>
        simp only [endM,he,if_true,hf]
        refine ⟨?_,by omega,trivial,by omega,by omega⟩
        rw [show s.length - i = K + 1 by omega]
  · rw [if_neg hend] at hr
    cases he:ends S with
    | false =>
      rw [he] at hr
      rw [if_neg (by decide)] at hr
      rw [if_pos ⟨rfl,by omega⟩,if_pos ⟨rfl,by omega⟩]
      refine ⟨rfl,by omega,?_⟩
      rw [hr,show i + 1 + K = i + (K + 1) by omega]
    | true =>
      rw [he,if_pos rfl] at hr
      have hne:¬ i + (K + 1) = s.length:=by omega
      rw [if_neg (by simp),if_neg (by simp [hne]),if_neg (by simp),if_neg (by simp [hne])]
      cases hf:fl ((s.drop i).take (K + 1)) with
      | none =>
        rw [hf] at hr
        refine ⟨rfl,by omega,?_⟩
        rw [hr,show i + 1 + K = i + (K + 1) by omega]
      | some b =>
        rw [hf] at hr
        refine ⟨rfl,by omega,by omega,rfl,?_,?_⟩
        · show K + 1 = i + (K + 1) - i;omega
        rw [hr,List.drop_drop,show i + 1 + K = i + (K + 1) by omega,show i + (K + 1) - i = K + 1 by omega]
structure Ot where
  toks:List Tok
  no:Nat
  pos:Nat
  found:Nat
  held:Nat
def Ot.cons (t:Tok) (o:Ot):Ot:=⟨t :: o.toks,o.no,o.pos,o.found,o.held⟩
def Ot.pre (l:List Tok) (o:Ot):Ot:=⟨l ++ o.toks,o.no,o.pos,o.found,o.held⟩
def rdF (fl:List UInt8 → Option Nat) (s:List UInt8) (en:Bool) (i:Nat):Ot :=
  if h:i < s.length then (match item fl s en i with
    | .skip=>rdF fl s en (i + 1)
    | .tok t to=>(rdF fl s en (i + (to - i - 1) + 1)).cons t
    | .bad no p f=>⟨[],no,p,f,0⟩
    | .cut=>if en = true then ⟨[],95,s.length,s.length,0⟩ else ⟨[],0,0,0,s.length - i⟩) else ⟨[],0,0,0,0⟩
termination_by s.length - i
section
variable {fl:List UInt8 → Option Nat} {s:List UInt8} {en:Bool} {i:Nat}
theorem rdF_end (h:s.length ≤ i):rdF fl s en i = ⟨[],0,0,0,0⟩:=by rw [rdF,dif_neg (by omega)]
theorem rdF_skip (h:i < s.length) (hi:item fl s en i = .skip):rdF fl s en i = rdF fl s en (i + 1):=by rw [rdF,dif_pos h,hi]
theorem rdF_tok {t:Tok} {to:Nat} (h:i < s.length) (hi:item fl s en i = .tok t to) (hto:i < to):rdF fl s en i = (rdF fl s en to).cons t:=by
  rw [rdF,dif_pos h,hi]
  simp only []
  rw [show i + (to - i - 1) + 1 = to by omega]
theorem rdF_bad {no p f:Nat} (h:i < s.length) (hi:item fl s en i = .bad no p f):rdF fl s en i = ⟨[],no,p,f,0⟩:=by rw [rdF,dif_pos h,hi]
theorem rdF_cut (h:i < s.length) (hi:item fl s en i = .cut):rdF fl s en i = if en = true then ⟨[],95,s.length,s.length,0⟩ else ⟨[],0,0,0,s.length - i⟩:=by rw [rdF,dif_pos h,hi]
end
def Rn.open (n:Nat) (r:Rn):Ot:=match r.fin with
  | .inl m=>⟨r.toks,0,0,0,heldM n m⟩
  | .inr x=>⟨r.toks,x.1,x.2.1,x.2.2,0⟩
def Rn.shut (fl:List UInt8 → Option Nat) (n:Nat) (r:Rn):Ot:=match r.fin with
  | .inl m=>⟨r.toks ++ (endM fl n m).1,(endM fl n m).2.1,(endM fl n m).2.2,if (endM fl n m).2.1 = 0 then 0 else n,0⟩
  | .inr x=>⟨r.toks,x.1,x.2.1,x.2.2,0⟩
theorem Rn.open_pre (n:Nat) (l:List Tok) (r:Rn):(r.pre l).open n = (r.open n).pre l:=by
  unfold Rn.open Rn.pre Ot.pre
  cases r.fin <;> rfl
theorem Rn.shut_pre (fl:List UInt8 → Option Nat) (n:Nat) (l:List Tok) (r:Rn):(r.pre l).shut fl n = (r.shut fl n).pre l:=by
  unfold Rn.shut Rn.pre Ot.pre
  cases r.fin
  · simp
  · rfl
theorem rd_run (fl:List UInt8 → Option Nat) (s:List UInt8) (i:Nat) (hi:i ≤ s.length) :
    rdF fl s false i = (run fl i .out (s.drop i)).open s.length ∧ rdF fl s true i = (run fl i .out (s.drop i)).shut fl s.length:=by
  generalize hn:s.length - i = n
  induction n using Nat.strongRecOn generalizing i with
  | ind n ih =>
    by_cases hl:i < s.length
    · have h:=run_item fl s i hl
      cases hF:item fl s false i with
      | skip =>
        rw [hF] at h
        obtain ⟨h1,h2⟩:=h
        rw [rdF_skip hl hF,rdF_skip hl h1,h2]
        exact ih _ (by omega) (i + 1) (by omega) rfl
      | tok t to =>
        rw [hF] at h
        obtain ⟨h1,h2,h3,_,_,h4⟩:=h
        obtain ⟨k1,k2⟩:=ih _ (by omega) to h3 rfl
        rw [rdF_tok hl hF h2,rdF_tok hl h1 h2,h4,Rn.open_pre,Rn.shut_pre,k1,k2]
        exact ⟨rfl,rfl⟩
      | bad no p f =>
        rw [hF] at h
        obtain ⟨h1,_,h2⟩:=h
        rw [rdF_bad hl hF,rdF_bad hl h1,h2]
        exact ⟨rfl,rfl⟩
      | cut =>
        rw [hF] at h
        obtain ⟨m,h1,h2,h3⟩:=h
        rw [rdF_cut hl hF,if_neg (by decide),h1]
        refine ⟨?_,?_⟩
        · show _ = (⟨[],0,0,0,heldM s.length m⟩:Ot)
          unfold heldM
          rw [h2]
        cases hT:item fl s true i with
        | skip=>rw [hT] at h3;exact h3.elim
        | tok t to =>
          rw [hT] at h3
          obtain ⟨g1,g2,_,_,g3⟩:=h3
          rw [rdF_tok hl hT g3,g2,rdF_end (Nat.le_refl _)]
          show _ = (⟨[] ++ (endM fl s.length m).1,_,_,_,_⟩:Ot)
          rw [g1]
          rfl
        | bad no p f =>
          rw [hT] at h3
          obtain ⟨g1,g2,g3⟩:=h3
          rw [rdF_bad hl hT]
          show _ = (⟨[] ++ (endM fl s.length m).1,_,_,_,_⟩:Ot)
          rw [g1,g3]
          simp [g2]
        | cut =>
          rw [hT] at h3
          rw [rdF_cut hl hT,if_pos rfl]
          show _ = (⟨[] ++ (endM fl s.length m).1,_,_,_,_⟩:Ot)
          rw [h3]
          rfl
    · rw [rdF_end (by omega),rdF_end (by omega),List.drop_eq_nil_of_le (by omega)]
      exact ⟨rfl,rfl⟩
end Go.Proofs.YtgmholdkdppbmaaGreatDoor.Lx

namespace Go.Proofs.YtgmholdkdppbmaaGreatDoor
open Go.RowKit
theorem bcell {W w1:World} (hb:Below W.heap.size W w1):(∀ b o,b < W.heap.size → w1.cell? ⟨b,o,none⟩ = W.cell? ⟨b,o,none⟩) ∧ (∀ b o,b < W.heap.size → w1.frozen? ⟨b,o,none⟩ = W.frozen? ⟨b,o,none⟩) :=
  ⟨fun b o h=>hb.cell (p:=⟨b,o,none⟩) h,fun b o h=>hb.frozen (p:=⟨b,o,none⟩) h⟩
theorem keepc {W w1:World} {b o:Nat} {v:Value} (hx:Below W.heap.size W w1) (hz:b < W.heap.size) (hc:W.cell? ⟨b,o,none⟩ = some v):w1.cell? ⟨b,o,none⟩ = some v:=by
  rw [hx.cell (p:=⟨b,o,none⟩) hz];exact hc
theorem keepf {W w1:World} {b o:Nat} (hx:Below W.heap.size W w1) (hz:b < W.heap.size) (hc:W.frozen? ⟨b,o,none⟩ = false):w1.frozen? ⟨b,o,none⟩ = false:=by
  rw [hx.frozen (p:=⟨b,o,none⟩) hz];exact hc
theorem keepz {W w1:World} {b:Nat} (hx:Below W.heap.size W w1) (hz:b < W.heap.size):b < w1.heap.size:=Nat.lt_of_lt_of_le hz hx.size
theorem keepb {w W w1:World} (hb:Below w.heap.size w W) (hx:Below W.heap.size W w1):Below w.heap.size w w1:=hb.trans (hx.mono hb.size)
theorem below_drewN {B:Nat} {a w:World} (h:Below B a w) (n:Nat):Below B a (w.drewN n):=⟨h.os,h.tape,h.output,h.size,h.block⟩
def Blk (w:World) (g:Nat) (t:TypeId) (cs:Array Value):Prop:=w.heap[g]? = some (.cells cs t (0,0))
section
variable {w w':World} {g:Nat} {t:TypeId} {cs:Array Value}
theorem Blk.lt (h:Blk w g t cs):g < w.heap.size:=by
  rcases Nat.lt_or_ge g w.heap.size with hlt | hge
  · exact hlt
  · unfold Blk at h;rw [Array.getElem?_eq_none hge] at h;cases h
theorem Blk.cell (h:Blk w g t cs) (i:Nat):w.cell? ⟨g,i,none⟩ = cs[i]?:=cell_of_row w g i cs t (0,0) h
theorem Blk.frozen (h:Blk w g t cs) (i:Nat):w.frozen? ⟨g,i,none⟩ = false:=by
  unfold Blk at h
  simp [World.frozen?,h]
theorem Blk.new (w:World) (t:TypeId) (cs:Array Value):Blk (w.alloc (.cells cs t)) w.heap.size t cs:=heap_alloc_new w _
theorem Blk.drew (h:Blk w g t cs):Blk w.drew g t cs:=h
theorem Blk.drewN (h:Blk w g t cs) (n:Nat):Blk (w.drewN n) g t cs:=h
theorem Blk.alloc (h:Blk w g t cs) (o:Obj):Blk (w.alloc o) g t cs:=(Below.heap_alloc w o g h.lt).trans h
theorem Blk.set1 (h:Blk w g t cs) (i:Nat) (u:Value):Blk (w.setCell ⟨g,i,none⟩ u) g t (cs.setIfInBounds i u):=by
  unfold Blk at h ⊢
  simp [World.setCell,Array.getElem?_modify,h]
theorem Blk.far (h:Blk w g t cs) {p:Addr} (hp:g ≠ p.block) (u:Value):Blk (w.setCell p u) g t cs:=(Below.heap_setCell w p u g hp).trans h
theorem Blk.below {B:Nat} (h:Blk w g t cs) (hb:Below B w w') (hg:g < B):Blk w' g t cs:=(hb.block g hg).trans h
theorem Blk.grown {row:Option Nat} (h:Blk w g t cs) (hb:w.grownBy w' row) (hg:some g ≠ row):Blk w' g t cs:=(hb.block g h.lt hg).trans h
theorem Blk.apart {g':Nat} {t':TypeId} {cs':Array Value} (h:Blk w g t cs) (h':Blk w g' t' cs') (hne:t ≠ t'):g ≠ g':=by
  rintro rfl
  unfold Blk at h h'
  rw [h] at h'
  injection h' with h'
  injection h' with _ ht
  exact hne ht
theorem own_apart {base:Nat} {e:TypeId} {size n:Nat} {v:Value} {xs:List Value} (h:w.ownsRow base e size v n xs) (hg:Blk w g t cs) (hne:e ≠ t):v.ownBlock ≠ some g:=by
  rcases h.2 with ⟨rfl,_⟩ | ⟨g',cap,cur,rfl,_,hh,_⟩
  · simp [Value.ownBlock]
  · intro he
    have:g' = g:=by simpa [Value.ownBlock] using he
    subst this
    exact Blk.apart (t:=e) hh hg hne rfl
end
structure But (B b:Nat) (w w':World):Prop where
  os:w'.os = w.os
  tape:w'.tape = w.tape
  output:w'.output = w.output
  size:w.heap.size ≤ w'.heap.size
  block:∀ k,k < B → k ≠ b → w'.heap[k]? = w.heap[k]?
section
variable {B b:Nat} {a w w':World}
theorem But.refl (B b:Nat) (w:World):But B b w w:=⟨rfl,rfl,rfl,Nat.le_refl _,fun _ _ _=>rfl⟩
theorem But.trans (h:But B b a w) (k:But B b w w'):But B b a w' :=
  ⟨k.os.trans h.os,k.tape.trans h.tape,k.output.trans h.output,Nat.le_trans h.size k.size,fun i hi hb=>(k.block i hi hb).trans (h.block i hi hb)⟩
theorem But.drew (h:But B b a w):But B b a w.drew:=⟨h.os,h.tape,h.output,h.size,h.block⟩
theorem But.drewN (h:But B b a w) (n:Nat):But B b a (w.drewN n):=⟨h.os,h.tape,h.output,h.size,h.block⟩
theorem But.below (h:But B b a w) (k:Below B w w'):But B b a w' :=
  ⟨k.os.trans h.os,k.tape.trans h.tape,k.output.trans h.output,Nat.le_trans h.size k.size,fun i hi hb=>(k.block i hi).trans (h.block i hi hb)⟩
theorem But.of_below (k:Below B w w'):But B b w w':=(But.refl B b w).below k
theorem But.alloc (h:But B b a w) (hB:B ≤ w.heap.size) (o:Obj):But B b a (w.alloc o):=h.below ((Below.refl _ _).alloc hB o)
theorem But.setCell (h:But B b a w) {p:Addr} (hp:p.block = b ∨ B ≤ p.block) (u:Value):But B b a (w.setCell p u) :=
  h.trans ⟨rfl,rfl,rfl,by simp [World.setCell],fun k hk hb=>Below.heap_setCell _ _ _ _ (by omega)⟩
theorem But.grown {row:Option Nat} (h:But B b a w) (hg:w.grownBy w' row) (hB:B ≤ w.heap.size) (hr:∀ k,row = some k → B ≤ k):But B b a w' :=
  h.below ((Below.refl _ _).grown hg hB hr)
theorem But.mono {B':Nat} (h:But B b w w') (hB:B' ≤ B):But B' b w w':=⟨h.os,h.tape,h.output,h.size,fun k hk hb=>h.block k (by omega) hb⟩
theorem But.toBelow (h:But B b w w') (hb:B ≤ b):Below B w w':=⟨h.os,h.tape,h.output,h.size,fun k hk=>h.block k hk (by omega)⟩
theorem But.grownBy (h:But w.heap.size b w w'):w.grownBy w' (some b):=⟨h.os,h.tape,h.output,h.size,fun k hk hne=>h.block k hk (fun e=>hne (by rw [e]))⟩
theorem But.cell (h:But B b w w') {p:Addr} (hp:p.block < B) (hb:p.block ≠ b):w'.cell? p = w.cell? p:=World.cell?_of_block (w:=w) (h.block p.block hp hb)
end
abbrev bv (b:UInt8):Value:=.int .u8 (b.toNat:Int)
def RB (w:World) (B:Nat) (A:Option Addr) (n:Nat) (bs:List UInt8):Prop :=
  bs.length = n ∧ (0 < n → ∃ g o,A = some ⟨g,o,none⟩ ∧ g < B ∧ ∀ j (h:j < bs.length),w.cell? ⟨g,o + j,none⟩ = some (bv bs[j]))
theorem RB.nil (w:World) (B:Nat) (A:Option Addr):RB w B A 0 []:=⟨rfl,fun h=>absurd h (by omega)⟩
theorem RB.keep {w w':World} {B:Nat} {A:Option Addr} {n:Nat} {bs:List UInt8} (h:RB w B A n bs) (hk:∀ g o,A = some ⟨g,o,none⟩ → g < B → ∀ j,w'.cell? ⟨g,j,none⟩ = w.cell? ⟨g,j,none⟩):RB w' B A n bs :=
  ⟨h.1,fun hn=>by
    obtain ⟨g,o,hA,hg,hc⟩:=h.2 hn
    exact ⟨g,o,hA,hg,fun j hj=>(hk g o hA hg _).trans (hc j hj)⟩⟩
theorem RB.below {w w':World} {B:Nat} {A:Option Addr} {n:Nat} {bs:List UInt8} (h:RB w B A n bs) (hb:Below B w w'):RB w' B A n bs :=
  h.keep fun g _ _ hg j=>hb.cell (p:=⟨g,j,none⟩) hg
theorem RB.mono {w:World} {B B':Nat} {A:Option Addr} {n:Nat} {bs:List UInt8} (h:RB w B A n bs) (hB:B ≤ B'):RB w B' A n bs :=
  ⟨h.1,fun hn=>by
    obtain ⟨g,o,hA,hg,hc⟩:=h.2 hn
    exact ⟨g,o,hA,by omega,hc⟩⟩
theorem RB.but {w w':World} {B b:Nat} {A:Option Addr} {n:Nat} {bs:List UInt8} (h:RB w B A n bs) (hb:But B b w w') (hne:∀ g o,A = some ⟨g,o,none⟩ → 0 < n → g ≠ b):RB w' B A n bs :=
  ⟨h.1,fun hn=>by
    obtain ⟨g,o,hA,hg,hc⟩:=h.2 hn
    exact ⟨g,o,hA,hg,fun j hj=>(hb.cell (p:=⟨g,o + j,none⟩) hg (hne g o hA hn)).trans (hc j hj)⟩⟩
theorem RB.lt {w:World} {B:Nat} {A:Option Addr} {n:Nat} {bs:List UInt8} (h:RB w B A n bs):∀ g o,A = some ⟨g,o,none⟩ → 0 < n → g < B:=by
  intro g o hA hn
  obtain ⟨g',o',hA',hg,_⟩:=h.2 hn
  rw [hA] at hA'
  injection hA' with h1
  injection h1 with h1
  omega
theorem RB.of_own {w:World} {base:Nat} {e:TypeId} {A:Option Addr} {n c:Nat} {bs:List UInt8} (h:w.ownsRow base e 1 (.slice A n c) n (bs.map bv)):RB w w.heap.size A n bs:=by
  have hl:bs.length = n:=by have:=h.1;simpa using this
  refine ⟨hl,fun hn=>?_⟩
  rcases h.2 with ⟨_,h0⟩ | ⟨g,cap,cur,hv,_,hg,_,_,_,htake⟩
  · omega
  · injection hv with hA hn' hc
    subst hA
    refine ⟨g,0,rfl,(Array.getElem?_eq_some_iff.1 hg).1,fun j hj=>?_⟩
    have:=h.cells (g:=g) rfl j (bv bs[j]) (by simp [hj])
    have hadd:(⟨g,0,none⟩:Addr).add j = ⟨g,0 + j,none⟩:=by unfold Addr.add;split <;> simp_all
    rwa [hadd] at this
theorem own_shape {w:World} {base:Nat} {e:TypeId} {size n:Nat} {v:Value} {xs:List Value} (h:w.ownsRow base e size v n xs):∃ A c,v = .slice A n c ∧ n ≤ c:=by
  rcases h.2 with ⟨rfl,rfl⟩ | ⟨g,cap,cur,rfl,_,_,hn,_⟩
  · exact ⟨none,0,rfl,Nat.le_refl _⟩
  · exact ⟨_,cap,rfl,hn⟩
theorem below_bytesWorld (w:World) (e:TypeId) (s:ByteArray):Below w.heap.size w (Lib.bytesWorld w e s) :=
  ⟨rfl,rfl,rfl,by rw [Lib.bytesWorld_size];omega,fun k hk=>Lib.bytesWorld_at_old w e s k hk⟩
theorem RB.of_row {w:World} {A:Option Addr} {len cap:Nat} {zs:List Int}
    (h:(A = none ∧ len = 0 ∧ cap = 0 ∧ zs = []) ∨ ∃ x,A = some x ∧ len ≤ cap ∧ cap ≤ maxLen ∧ zs.length = cap ∧ (∀ i,i < zs.length → w.cell? (x.add i) = some (.int .u8 (zs.getD i 0))) ∧ ∀ n ∈ zs,(Lit.int .u8 n).wf = true) :
    RB w w.heap.size A len ((zs.take len).map fun z=>UInt8.ofNat z.toNat) ∧ len ≤ cap ∧ cap ≤ maxLen:=by
  rcases h with ⟨rfl,rfl,rfl,rfl⟩ | ⟨x,rfl,hl,hm,hz,hc,hw⟩
  · exact ⟨RB.nil _ _ _,Nat.le_refl _,by unfold maxLen;omega⟩
  · refine ⟨⟨by simp;omega,fun hn=>?_⟩,hl,hm⟩
    obtain ⟨b,off,spot⟩:=x
    have h0:=hc 0 (by omega)
    have hs:spot = none:=by simpa [Addr.add] using World.cell?_spot h0
    subst hs
    have hlt:b < w.heap.size:=by have:=World.block_lt_of_cell? w _ h0;simpa [Addr.add] using this
    refine ⟨b,off,rfl,hlt,fun j hj=>?_⟩
    have hj':j < len:=by simp at hj;omega
    have h1:=hc j (by omega)
    have hadd:(⟨b,off,none⟩:Addr).add j = ⟨b,off + j,none⟩:=by unfold Addr.add;split <;> simp_all
    rw [hadd] at h1
    rw [h1]
    have hg:zs.getD j 0 = zs[j]'(by omega):=by simp [List.getD,show j < zs.length by omega]
    have hwf:=hw (zs[j]'(by omega)) (List.getElem_mem _)
    have hb:0 ≤ zs[j]'(by omega) ∧ zs[j]'(by omega) ≤ 255:=by
      simp [Lit.wf,IntKind.min,IntKind.max,IntKind.signed,IntKind.bits] at hwf
      omega
    rw [hg]
    simp only [bv,List.getElem_map,List.getElem_take]
    congr 2
    simp
    omega
end Go.Proofs.YtgmholdkdppbmaaGreatDoor

namespace Go.Proofs.YtgmholdkdppbmaaGreatDoor
open Go.RowKit
theorem info_u8:(Tryz.prog.info? 5).map (fun i=>(i.zero,i.size,i.bytes)) = some (some (.int .u8 0),1,1):=by kernel_rfl
theorem bv_one (bs:List UInt8):∀ u ∈ bs.map bv,u.oneCell' = true:=by
  intro u hu
  simp at hu
  obtain ⟨b,_,rfl⟩:=hu
  rfl
theorem str_of_RB {w:World} {B:Nat} {A:Option Addr} {n:Nat} {bs:List UInt8} (h:RB w B A n bs) (c:Nat) :
    (convert 22 9 (.slice A n c)).run Tryz.prog w = .ok (.string ⟨bs.toArray⟩) w:=by
  obtain ⟨hl,hc⟩:=h
  by_cases hn:0 < n
  · obtain ⟨g,o,rfl,_,hcell⟩:=hc hn
    rw [run_convert_bytes_arg w 22 5 Tryz.underlying22 Tryz.underlying5 g o n c (bs.map fun b=>(b.toNat:Int)) (by simpa using hl)
      (fun i hi=>by rw [hcell i (by omega)];simp [List.getD,show i < bs.length by omega]) 9 Tryz.underlying9]
    congr 3
    simp only [strOfNums,List.map_map]
    congr 1
    have e:((fun n:Int=>UInt8.ofNat n.toNat) ∘ fun b:UInt8=>(b.toNat:Int)) = id:=by funext b;simp
    rw [e,List.map_id]
  · obtain rfl:n = 0:=by omega
    obtain rfl:bs = []:=List.eq_nil_of_length_eq_zero hl
    cases A with
    | none=>exact run_convert_bytes_nil w 22 5 Tryz.underlying22 Tryz.underlying5 0 c 9 Tryz.underlying9
    | some a =>
      rw [run_convert_bytes_string w 22 9 5 _ 0 c Tryz.underlying22 Tryz.underlying5 Tryz.underlying9,run_bytesToString w a 0 c [] ?_]
      · rfl
      · simpa using run_loadCells_list (P:=Tryz.prog) w a [] (fun j v hj=>by simp at hj)
def zrow (c:Nat):List Value:=List.replicate c (bv 0)
theorem zrow_length (c:Nat):(zrow c).length = c:=by simp [zrow]
theorem make_bytes (n c:Nat) (hnc:n ≤ c) (hc:c ≤ 140737488355328) (w:World) :
    (Instr.makeSlice 22 (.int .i64 (n:Int)) (.int .i64 (c:Int))).run Tryz.prog w = .ok (.slice (some ⟨w.heap.size,0,none⟩) n c) (w.alloc (.cells (zrow c).toArray 5)):=by
  obtain ⟨i,hi,hz,hsize,hby⟩:=info_parts info_u8
  have hb:(i.bytes:Int) * (c:Int) ≤ 281474976710656:=by rw [hby];omega
  have hr:=run_make (P:=Tryz.prog) w 22 5 i (.int .u8 0) Tryz.underlying22 hi hz .i64 .i64 n c (by omega) (by omega) hb (by omega)
  simp only [Int.toNat_natCast] at hr
  have e:madeCells (Value.int .u8 0).cells (c * i.size) = (zrow c).toArray:=by
    rw [hsize,Nat.mul_one]
    have:=toList_madeCells_one (.int .u8 0) c
    exact (Array.toArray_toList (xs:=madeCells #[.int .u8 0] c)).symm.trans (by rw [this];rfl)
  rw [e] at hr
  exact hr
theorem wpList_copyin {ops:Array Oper} {rest:List Oper} {o:Oper} {a:Act} {Q:Exit → Act → World → Prop} {w:World} (hgd:o.guard = none) (d s:Operand)
    (ho:o.op = .call { callee:=.builtin .copy,args:=#[d,s],argTypes:=#[22,22] })
    (g n dCap sCap:Nat) (A:Option Addr) (hd:a.eval d = .slice (some ⟨g,0,none⟩) n dCap) (hs:a.eval s = .slice A n sCap) (B:Nat) (bs:List UInt8) (hR:RB w B A n bs)
    (cur:List Value) (hg:Blk w g 5 cur.toArray) (hlen:n ≤ cur.length) (B0:Nat) (w0:World) (hb:Below B0 w0 w) (hBg:B0 ≤ g)
    (h:∀ w',Hid (Blk w' g 5 (bs.map bv ++ cur.drop n).toArray) → Below B0 w0 w' → wpList Tryz.prog ops Q rest (a.put o.dst (goInt n)) w'):wpList Tryz.prog ops Q (o :: rest) a w:=by
  obtain ⟨hl,hc⟩:=hR
  have hml:(bs.map bv).length = n:=by simpa using hl
  refine wpList_copy_splice hgd d s 22 22 ho 5 Tryz.underlying22 (by kernel_rfl) (some ⟨g,0,none⟩) A n dCap n sCap hd hs g 0 cur 5 hg (bs.map bv) (by rw [hml];exact (Nat.min_self n).symm) ?_ (by omega) (bv_one bs) B0 w0 hb hBg ?_
  · intro hp
    obtain ⟨g',o',hA,_,hcell⟩:=hc (by omega)
    refine ⟨rfl,_,hA,fun j v hj=>?_⟩
    have hadd:(⟨g',o',none⟩:Addr).add j = ⟨g',o' + j,none⟩:=by unfold Addr.add;split <;> simp_all
    have hjl:j < bs.length:=by
      rcases Nat.lt_or_ge j bs.length with h' | h'
      · exact h'
      · rw [List.getElem?_eq_none (by simpa using h')] at hj;cases hj
    rw [hadd,hcell j hjl]
    simpa [hjl] using hj
  · intro w' h1 h2
    have h3:=h w' (show _ = _ by
      have:=h1.out
      simp only [splice,List.take_zero,List.nil_append,Nat.zero_add,hml] at this
      exact this) h2
    rw [hml]
    exact h3
theorem wpList_push {ops:Array Oper} {rest:List Oper} {o:Oper} {a:Act} {Q:Exit → Act → World → Prop} {w:World} (hgd:o.guard = none) (s x:Operand)
    (ho:o.op = .call { callee:=.builtin .append,args:=#[s,x],argTypes:=#[22,22] })
    (base:Nat) (v:Value) (n:Nat) (bs:List UInt8) (hs:a.eval s = v) (hown:w.ownsRow base 5 1 v n (bs.map bv))
    (g0 c0:Nat) (hx:a.eval x = .slice (some ⟨g0,0,none⟩) 1 c0) (c:UInt8) (hc:w.cell? ⟨g0,0,none⟩ = some (bv c)) (hn:n < 140737488355328) (hbase:base ≤ w.heap.size)
    (h:∀ g cap w',w'.ownsRow base 5 1 (.slice (some ⟨g,0,none⟩) (n + 1) cap) (n + 1) ((bs ++ [c]).map bv) → w.grownBy w' v.ownBlock → (v.ownBlock = some g ∨ g = w.heap.size) → g < w'.heap.size →
      wpList Tryz.prog ops Q rest (a.put o.dst (.slice (some ⟨g,0,none⟩) (n + 1) cap)) w'):wpList Tryz.prog ops Q (o :: rest) a w:=by
  obtain ⟨i,hi,hz,hsize,hby⟩:=info_parts info_u8
  refine wpList_append_lies (P:=Tryz.prog) w hgd s x 22 ho base 5 i (.int .u8 0) 1 1 Tryz.underlying22 hi hz hsize hby rfl (by omega) v n (bs.map bv) hs hown ⟨g0,0,none⟩ 1 c0 [bv c] hx rfl ?_ ?_ (by omega) (by unfold maxLen;omega) (by omega) hbase w.heap.size rfl ?_
  · intro j u hj
    cases j with
    | zero=>simp at hj;subst hj;simpa [Addr.add] using hc
    | succ j=>simp at hj
  · intro u hu;simp at hu;subst hu;rfl
  · intro g cap w' h1 h2 h3 h4
    exact h g cap w' (by simpa using h1) h2 h3 h4
theorem wpList_pushstr {ops:Array Oper} {rest:List Oper} {o:Oper} {a:Act} {Q:Exit → Act → World → Prop} {w:World} (hgd:o.guard = none) (s x:Operand)
    (ho:o.op = .call { callee:=.builtin .append,args:=#[s,x],argTypes:=#[22,9] })
    (base:Nat) (v:Value) (n:Nat) (bs:List UInt8) (hs:a.eval s = v) (hown:w.ownsRow base 5 1 v n (bs.map bv))
    (l:List UInt8) (hx:a.eval x = .string ⟨l.toArray⟩) (hn:n + l.length < 140737488355328) (hbase:base ≤ w.heap.size)
    (h:∀ A cap w',w'.ownsRow base 5 1 (.slice A (n + l.length) cap) (n + l.length) ((bs ++ l).map bv) → w.grownBy w' v.ownBlock →
      (∀ c',(convert 22 9 (.slice A (n + l.length) c')).run Tryz.prog w' = .ok (.string ⟨(bs ++ l).toArray⟩) w') →
      wpList Tryz.prog ops Q rest (a.put o.dst (.slice A (n + l.length) cap)) w'):wpList Tryz.prog ops Q (o :: rest) a w:=by
  obtain ⟨i,hi,hz,hsize,hby⟩:=info_parts info_u8
  have hsz:(⟨l.toArray⟩:ByteArray).size = l.length:=rfl
  refine Lib.wpList_append_own_string w hgd s x 22 9 ho base 5 i Tryz.underlying22 Tryz.underlying9 hi hz hsize hby v n (bs.map bv) hs hown ⟨l.toArray⟩ hx (by rw [hsz];unfold maxLen;omega) (by rw [hsz];omega) hbase ?_
  intro v' w' hown' hg' _
  have hsc:Lib.strCells ⟨l.toArray⟩ = l.map bv:=by simp [Lib.strCells]
  rw [hsc,← List.map_append,hsz] at hown'
  obtain ⟨A,cap,rfl,_⟩:=own_shape hown'
  exact h A cap w' hown' hg' (fun c'=>by have:=str_of_RB (RB.of_own hown') c';exact this)
end Go.Proofs.YtgmholdkdppbmaaGreatDoor

namespace Go.Proofs.YtgmholdkdppbmaaGreatDoor
open Go.RowKit
theorem Blk.st {w w':World} {g:Nat} {t:TypeId} {cs:Array Value} (h:Blk w g t cs) (hb:Below w.heap.size w w'):Blk w' g t cs:=h.below hb h.lt
theorem Blk.new2 (w:World) (t:TypeId) (cs:Array Value) (o:Obj):Blk ((w.alloc o).alloc (.cells cs t)) (w.heap.size + 1) t cs:=by
  have:=Blk.new (w.alloc o) t cs
  rwa [World.size_alloc] at this
end Go.Proofs.YtgmholdkdppbmaaGreatDoor

namespace Go.Proofs.YtgmholdkdppbmaaGreatDoor.Lx
open Go.RowKit
attribute [local go_sem ↓] Go.wp_at_zero Go.wp_at_succ
structure Fr (O:Nat → Prop) (w w':World):Prop where
  os:w'.os = w.os
  tape:w'.tape = w.tape
  output:w'.output = w.output
  size:w.heap.size ≤ w'.heap.size
  block:∀ k,k < w.heap.size → ¬ O k → w'.heap[k]? = w.heap[k]?
section
variable {O:Nat → Prop} {w w1 w2:World}
theorem Fr.refl (O:Nat → Prop) (w:World):Fr O w w:=⟨rfl,rfl,rfl,Nat.le_refl _,fun _ _ _=>rfl⟩
theorem Fr.trans (h:Fr O w w1) (k:Fr O w1 w2):Fr O w w2 :=
  ⟨k.os.trans h.os,k.tape.trans h.tape,k.output.trans h.output,Nat.le_trans h.size k.size,fun i hi hO=>(k.block i (Nat.lt_of_lt_of_le hi h.size) hO).trans (h.block i hi hO)⟩
theorem Fr.of_below (h:Below w.heap.size w w1):Fr O w w1:=⟨h.os,h.tape,h.output,h.size,fun k hk _=>h.block k hk⟩
theorem Fr.below (h:Fr O w w1) (k:Below w1.heap.size w1 w2):Fr O w w2:=h.trans (.of_below k)
theorem Fr.setCell (h:Fr O w w1) {p:Addr} (hp:O p.block) (u:Value):Fr O w (w1.setCell p u) :=
  h.trans ⟨rfl,rfl,rfl,by simp [World.setCell],fun k _ hO=>Below.heap_setCell _ _ _ _ (fun e=>hO (by rw [e];exact hp))⟩
theorem Fr.alloc (h:Fr O w w1) (o:Obj):Fr O w (w1.alloc o):=h.below ((Below.refl _ _).alloc (Nat.le_refl _) o)
theorem Fr.grown {row:Option Nat} (h:Fr O w w1) (hg:w1.grownBy w2 row) (hr:∀ k,row = some k → O k):Fr O w w2 :=
  h.trans ⟨hg.os,hg.tape,hg.output,hg.size,fun k hk hO=>hg.block k hk (fun e=>hO (hr k e.symm))⟩
theorem Fr.mono {O':Nat → Prop} (h:Fr O w w1) (hO:∀ k,k < w.heap.size → O k → O' k):Fr O' w w1:=⟨h.os,h.tape,h.output,h.size,fun k hk hn=>h.block k hk (fun h'=>hn (hO k hk h'))⟩
theorem Fr.drew (h:Fr O w w1):Fr O w w1.drew:=⟨h.os,h.tape,h.output,h.size,h.block⟩
theorem Fr.blk {g:Nat} {t:TypeId} {cs:Array Value} (h:Fr O w w1) (hb:Blk w g t cs) (hO:¬ O g):Blk w1 g t cs:=(h.block g hb.lt hO).trans hb
end
theorem own_keep {w w':World} {base:Nat} {e:TypeId} {size n:Nat} {v:Value} {xs:List Value} (h:w.ownsRow base e size v n xs) (hk:∀ k,v.ownBlock = some k → w'.heap[k]? = w.heap[k]?):w'.ownsRow base e size v n xs:=by
  obtain ⟨h1,h2⟩:=h
  refine ⟨h1,?_⟩
  rcases h2 with h2 | ⟨g,cap,cur,hv,hg,hh,r⟩
  · exact .inl h2
  · exact .inr ⟨g,cap,cur,hv,hg,by rw [hk g (by rw [hv];rfl)];exact hh,r⟩
def tokV (t:Tok):Value:=match t.k with
  | .mark c=>.iface 83 (.agg #[.int .i64 t.pos,.int .i64 t.size,.int .u8 (c.toNat:Int)])
  | .term s=>.iface 52 (.agg #[.int .i64 t.pos,.int .i64 t.size,.string ⟨s.toArray⟩])
  | .num b=>.iface 87 (.agg #[.int .i64 t.pos,.int .i64 t.size,.int .u64 (b:Int)])
  | .str s=>.iface 90 (.agg #[.int .i64 t.pos,.int .i64 t.size,.string ⟨s.toArray⟩])
set_option maxRecDepth 100000 in
theorem span_any (b:Nat) (c0 c1 c2 c3 c4 c6 c7 c8 c9 c10 c11 c12 c13:Value) (f to:Nat) (w:World) (hb:Blk w b 80 #[c0,c1,c2,c3,c4,.int .i64 f,c6,c7,c8,c9,c10,c11,c12,c13]) (hle:f ≤ to) (hto:to ≤ 1000000000000) :
    Calls Tryz.prog 48 #[.pointer (some ⟨b,0,none⟩),.int .i64 to] w fun e w'=>e = .returned (.agg #[.int .i64 f,.int .i64 ((to - f:Nat):Int)]) ∧ Below w.heap.size w w':=by
  have hb1:=hb.alloc (.cells #[.int .i64 0,.int .i64 0] 50)
  have k5:=hb1.cell 5
  simp at k5
  have hsub2:(to:Int) - (f:Int) = ((to - f:Nat):Int):=by omega
  generalize to - f = d at *
  clear hb hb1
  go_enter Tryz.func48,Tryz.ntmps48
  go_wp2
  go_region
  go_wp2
  have hn:=Blk.new w 50 #[.int .i64 f,.int .i64 d]
  have n0:(w.alloc (.cells #[.int .i64 f,.int .i64 d] 50)).drew.cell? ⟨w.heap.size,0,none⟩ = some (.int .i64 f):=by rw [hn.drew.cell];rfl
  have n1:(w.alloc (.cells #[.int .i64 f,.int .i64 d] 50)).drew.cell? ⟨w.heap.size,1,none⟩ = some (.int .i64 d):=by rw [hn.drew.cell];rfl
  exact bodyPost_ret (v:=.agg #[.int .i64 f,.int .i64 d]) (by simp [results,Tryz.results48,go_sem,n0,n1]) rfl ⟨rfl,((Below.refl _ _).alloc (Nat.le_refl _) _).drew⟩
theorem info_tok:(Tryz.prog.info? 35).map (fun i=>(i.zero,i.size,i.bytes)) = some (some .nilIface,1,16):=by kernel_rfl
abbrev fOut:Value:=.func (.func 36) #[] #[]
abbrev fNum:Value:=.func (.func 52) #[] #[]
abbrev fLet:Value:=.func (.func 54) #[] #[]
abbrev fWit:Value:=.func (.func 51) #[] #[]
abbrev fEsc:Value:=.func (.func 63) #[] #[]
abbrev fDig:Value:=.func (.func 80) #[] #[]
abbrev fSla:Value:=.func (.func 116) #[] #[]
abbrev fLeu:Value:=.func (.func 132) #[] #[]
def TRow (O:Nat → Prop) (w:World) (v:Value) (ts:List Value):Prop:=w.ownsRow 0 35 1 v ts.length ts ∧ ∀ k,v.ownBlock = some k → O k
def Row (O:Nat → Prop) (w:World) (v:Value) (l:List UInt8):Prop:=w.ownsRow 0 5 1 v l.length (l.map bv) ∧ ∀ k,v.ownBlock = some k → O k
def up (O:Nat → Prop) (w:World) (k:Nat):Prop:=O k ∨ w.heap.size ≤ k
end Go.Proofs.YtgmholdkdppbmaaGreatDoor.Lx

namespace Go.Proofs.YtgmholdkdppbmaaGreatDoor.Lx
open Go.RowKit
theorem bit_byte (x c:UInt8):((x.toNat:Int) == (c.toNat:Int)) = decide (x = c):=by
  by_cases h:x = c
  · subst h;simp
  · have:¬ (x.toNat:Int) = (c.toNat:Int):=fun h'=>h (UInt8.toNat_inj.1 (by omega))
    simp [h,this]
theorem beq_c (x:UInt8) (n:Nat) (hn:n < 256):((x.toNat:Int) == (n:Int)) = (x == UInt8.ofNat n):=by
  have:=bit_byte x (UInt8.ofNat n)
  rw [toNat_ofNat hn] at this
  rw [this]
  by_cases h:x = UInt8.ofNat n <;> simp [h]
set_option maxRecDepth 100000 in
theorem blank_any (c:UInt8) (w:World):Calls Tryz.prog 49 #[.int .u8 (c.toNat:Int)] w fun e w'=>e = .returned (.bool (blankB c)) ∧ w = w':=by
  have h1:((c.toNat:Int) == 32) = (c == UInt8.ofNat 32):=beq_c c 32 (by decide)
  have h2:((c.toNat:Int) == 9) = (c == UInt8.ofNat 9):=beq_c c 9 (by decide)
  have h3:((c.toNat:Int) == 10) = (c == UInt8.ofNat 10):=beq_c c 10 (by decide)
  have h4:((c.toNat:Int) == 13) = (c == UInt8.ofNat 13):=beq_c c 13 (by decide)
  have hb:blankB c = (c == UInt8.ofNat 32 || c == UInt8.ofNat 9 || c == UInt8.ofNat 10 || c == UInt8.ofNat 13):=rfl
  rw [hb]
  generalize (c == UInt8.ofNat 32) = b1 at *
  generalize (c == UInt8.ofNat 9) = b2 at *
  generalize (c == UInt8.ofNat 10) = b3 at *
  generalize (c == UInt8.ofNat 13) = b4 at *
  clear hb
  generalize (c.toNat:Int) = C at *
  go_enter Tryz.func49,Tryz.ntmps49
  cases b1 <;> cases b2 <;> cases b3 <;> cases b4 <;> (go_wp2;go_ret;exact ⟨rfl,rfl⟩)
set_option maxRecDepth 100000 in
theorem word_any (c:UInt8) (w:World):Calls Tryz.prog 53 #[.int .u8 (c.toNat:Int)] w fun e w'=>e = .returned (.string ⟨(wordOf c).toArray⟩) ∧ w = w':=by
  have h1:=bit_byte c 110
  have h2:=bit_byte c 116
  have h3:=bit_byte c 102
  have e1:((110:UInt8).toNat:Int) = 110:=rfl
  have e2:((116:UInt8).toNat:Int) = 116:=rfl
  have e3:((102:UInt8).toNat:Int) = 102:=rfl
  rw [e1] at h1
  rw [e2] at h2
  rw [e3] at h3
  unfold wordOf
  generalize (c.toNat:Int) = C at *
  by_cases d1:c = 110
  · rw [decide_eq_true d1] at h1
    rw [if_pos d1]
    go_enter Tryz.func53,Tryz.ntmps53
    go_wp2
    go_ret
    exact ⟨rfl,rfl⟩
  rw [decide_eq_false d1] at h1
  rw [if_neg d1]
  by_cases d2:c = 116
  · rw [decide_eq_true d2] at h2
    rw [if_pos d2]
    go_enter Tryz.func53,Tryz.ntmps53
    go_wp2
    go_ret
    exact ⟨rfl,rfl⟩
  rw [decide_eq_false d2] at h2
  rw [if_neg d2]
  by_cases d3:c = 102
  · rw [decide_eq_true d3] at h3
    rw [if_pos d3]
    go_enter Tryz.func53,Tryz.ntmps53
    go_wp2
    go_ret
    exact ⟨rfl,rfl⟩
  rw [decide_eq_false d3] at h3
  rw [if_neg d3]
  go_enter Tryz.func53,Tryz.ntmps53
  go_wp2
  go_ret
  exact ⟨rfl,rfl⟩
set_option maxRecDepth 100000 in
theorem ends_any (st:Nat) (w:World) (h:st ≤ 8):Calls Tryz.prog 33 #[.int .i64 (st:Int)] w fun e w'=>e = .returned (.bool (ends st)) ∧ w = w':=by
  have key:∀ s:Nat,s ≤ 8 → s = 0 ∨ s = 1 ∨ s = 2 ∨ s = 3 ∨ s = 4 ∨ s = 5 ∨ s = 6 ∨ s = 7 ∨ s = 8:=fun s hs=>by omega
  rcases key st h with rfl | rfl | rfl | rfl | rfl | rfl | rfl | rfl | rfl <;>
    (go_enter Tryz.func33,Tryz.ntmps33;go_wp2;go_ret;exact ⟨rfl,rfl⟩)
def nxtV (st:Nat) (o:Option Nat):Value:=match o with
  | some s=>.tuple #[.int .i64 (s:Int),.bool true]
  | none=>.tuple #[.int .i64 (st:Int),.bool false]
def nxtB (st:Nat) (d e45 e48 e46 e101 e69 e43:Bool):Option Nat :=
  if st = 0 ∧ e45 = true then some 1
  else if (st = 0 ∨ st = 1) ∧ e48 = true then some 2
  else if (st = 0 ∨ st = 1 ∨ st = 3) ∧ d = true then some 3
  else if (st = 2 ∨ st = 3) ∧ e46 = true then some 4
  else if (st = 4 ∨ st = 5) ∧ d = true then some 5
  else if (st = 2 ∨ st = 3 ∨ st = 5) ∧ (e101 = true ∨ e69 = true) then some 6
  else if st = 6 ∧ (e43 = true ∨ e45 = true) then some 7
  else if (st = 6 ∨ st = 7 ∨ st = 8) ∧ d = true then some 8
  else none
theorem nxt_B (st:Nat) (c:UInt8):nxt st c = nxtB st (isD c) (c == 45) (c == 48) (c == 46) (c == 101) (c == 69) (c == 43):=by
  unfold nxt nxtB
  simp only [beq_iff_eq]
set_option maxRecDepth 100000 in
theorem next_0 (C:Int) (d1 d2 e45 e48 e46 e101 e69 e43:Bool) (w:World) (h1:decide (48 ≤ C) = d1) (h2:decide (C ≤ 57) = d2) (h45:(C == 45) = e45) (h48:(C == 48) = e48) (h46:(C == 46) = e46) (h101:(C == 101) = e101) (h69:(C == 69) = e69) (h43:(C == 43) = e43) :
    Calls Tryz.prog 65 #[.int .i64 0,.int .u8 C] w fun e w'=>e = .returned (nxtV 0 (nxtB 0 (d1 && d2) e45 e48 e46 e101 e69 e43)) ∧ w = w':=by
  go_enter Tryz.func65,Tryz.ntmps65
  cases d1 <;> cases d2 <;> cases e45 <;> cases e48 <;> (go_wp2;go_ret2;exact ⟨rfl,rfl⟩)
set_option maxRecDepth 100000 in
theorem next_1 (C:Int) (d1 d2 e45 e48 e46 e101 e69 e43:Bool) (w:World) (h1:decide (48 ≤ C) = d1) (h2:decide (C ≤ 57) = d2) (h45:(C == 45) = e45) (h48:(C == 48) = e48) (h46:(C == 46) = e46) (h101:(C == 101) = e101) (h69:(C == 69) = e69) (h43:(C == 43) = e43) :
    Calls Tryz.prog 65 #[.int .i64 1,.int .u8 C] w fun e w'=>e = .returned (nxtV 1 (nxtB 1 (d1 && d2) e45 e48 e46 e101 e69 e43)) ∧ w = w':=by
  go_enter Tryz.func65,Tryz.ntmps65
  cases d1 <;> cases d2 <;> cases e48 <;> (go_wp2;go_ret2;exact ⟨rfl,rfl⟩)
set_option maxRecDepth 100000 in
theorem next_2 (C:Int) (d1 d2 e45 e48 e46 e101 e69 e43:Bool) (w:World) (h1:decide (48 ≤ C) = d1) (h2:decide (C ≤ 57) = d2) (h45:(C == 45) = e45) (h48:(C == 48) = e48) (h46:(C == 46) = e46) (h101:(C == 101) = e101) (h69:(C == 69) = e69) (h43:(C == 43) = e43) :
    Calls Tryz.prog 65 #[.int .i64 2,.int .u8 C] w fun e w'=>e = .returned (nxtV 2 (nxtB 2 (d1 && d2) e45 e48 e46 e101 e69 e43)) ∧ w = w':=by
  go_enter Tryz.func65,Tryz.ntmps65
  cases d1 <;> cases d2 <;> cases e46 <;> cases e101 <;> cases e69 <;> (go_wp2;go_ret2;exact ⟨rfl,rfl⟩)
set_option maxRecDepth 100000 in
theorem next_3 (C:Int) (d1 d2 e45 e48 e46 e101 e69 e43:Bool) (w:World) (h1:decide (48 ≤ C) = d1) (h2:decide (C ≤ 57) = d2) (h45:(C == 45) = e45) (h48:(C == 48) = e48) (h46:(C == 46) = e46) (h101:(C == 101) = e101) (h69:(C == 69) = e69) (h43:(C == 43) = e43) :
    Calls Tryz.prog 65 #[.int .i64 3,.int .u8 C] w fun e w'=>e = .returned (nxtV 3 (nxtB 3 (d1 && d2) e45 e48 e46 e101 e69 e43)) ∧ w = w':=by
  go_enter Tryz.func65,Tryz.ntmps65
  cases d1 <;> cases d2 <;> cases e46 <;> cases e101 <;> cases e69 <;> (go_wp2;go_ret2;exact ⟨rfl,rfl⟩)
set_option maxRecDepth 100000 in
theorem next_4 (C:Int) (d1 d2 e45 e48 e46 e101 e69 e43:Bool) (w:World) (h1:decide (48 ≤ C) = d1) (h2:decide (C ≤ 57) = d2) (h45:(C == 45) = e45) (h48:(C == 48) = e48) (h46:(C == 46) = e46) (h101:(C == 101) = e101) (h69:(C == 69) = e69) (h43:(C == 43) = e43) :
    Calls Tryz.prog 65 #[.int .i64 4,.int .u8 C] w fun e w'=>e = .returned (nxtV 4 (nxtB 4 (d1 && d2) e45 e48 e46 e101 e69 e43)) ∧ w = w':=by
  go_enter Tryz.func65,Tryz.ntmps65
  cases d1 <;> cases d2 <;> (go_wp2;go_ret2;exact ⟨rfl,rfl⟩)
set_option maxRecDepth 100000 in
theorem next_5 (C:Int) (d1 d2 e45 e48 e46 e101 e69 e43:Bool) (w:World) (h1:decide (48 ≤ C) = d1) (h2:decide (C ≤ 57) = d2) (h45:(C == 45) = e45) (h48:(C == 48) = e48) (h46:(C == 46) = e46) (h101:(C == 101) = e101) (h69:(C == 69) = e69) (h43:(C == 43) = e43) :
    Calls Tryz.prog 65 #[.int .i64 5,.int .u8 C] w fun e w'=>e = .returned (nxtV 5 (nxtB 5 (d1 && d2) e45 e48 e46 e101 e69 e43)) ∧ w = w':=by
  go_enter Tryz.func65,Tryz.ntmps65
  cases d1 <;> cases d2 <;> cases e101 <;> cases e69 <;> (go_wp2;go_ret2;exact ⟨rfl,rfl⟩)
set_option maxRecDepth 100000 in
theorem next_6 (C:Int) (d1 d2 e45 e48 e46 e101 e69 e43:Bool) (w:World) (h1:decide (48 ≤ C) = d1) (h2:decide (C ≤ 57) = d2) (h45:(C == 45) = e45) (h48:(C == 48) = e48) (h46:(C == 46) = e46) (h101:(C == 101) = e101) (h69:(C == 69) = e69) (h43:(C == 43) = e43) :
    Calls Tryz.prog 65 #[.int .i64 6,.int .u8 C] w fun e w'=>e = .returned (nxtV 6 (nxtB 6 (d1 && d2) e45 e48 e46 e101 e69 e43)) ∧ w = w':=by
  go_enter Tryz.func65,Tryz.ntmps65
  cases d1 <;> cases d2 <;> cases e43 <;> cases e45 <;> (go_wp2;go_ret2;exact ⟨rfl,rfl⟩)
set_option maxRecDepth 100000 in
theorem next_7 (C:Int) (d1 d2 e45 e48 e46 e101 e69 e43:Bool) (w:World) (h1:decide (48 ≤ C) = d1) (h2:decide (C ≤ 57) = d2) (h45:(C == 45) = e45) (h48:(C == 48) = e48) (h46:(C == 46) = e46) (h101:(C == 101) = e101) (h69:(C == 69) = e69) (h43:(C == 43) = e43) :
    Calls Tryz.prog 65 #[.int .i64 7,.int .u8 C] w fun e w'=>e = .returned (nxtV 7 (nxtB 7 (d1 && d2) e45 e48 e46 e101 e69 e43)) ∧ w = w':=by
  go_enter Tryz.func65,Tryz.ntmps65
  cases d1 <;> cases d2 <;> (go_wp2;go_ret2;exact ⟨rfl,rfl⟩)
set_option maxRecDepth 100000 in
theorem next_8 (C:Int) (d1 d2 e45 e48 e46 e101 e69 e43:Bool) (w:World) (h1:decide (48 ≤ C) = d1) (h2:decide (C ≤ 57) = d2) (h45:(C == 45) = e45) (h48:(C == 48) = e48) (h46:(C == 46) = e46) (h101:(C == 101) = e101) (h69:(C == 69) = e69) (h43:(C == 43) = e43) :
    Calls Tryz.prog 65 #[.int .i64 8,.int .u8 C] w fun e w'=>e = .returned (nxtV 8 (nxtB 8 (d1 && d2) e45 e48 e46 e101 e69 e43)) ∧ w = w':=by
  go_enter Tryz.func65,Tryz.ntmps65
  cases d1 <;> cases d2 <;> (go_wp2;go_ret2;exact ⟨rfl,rfl⟩)
theorem next_any (st:Nat) (c:UInt8) (w:World) (h:st ≤ 8) :
    Calls Tryz.prog 65 #[.int .i64 (st:Int),.int .u8 (c.toNat:Int)] w fun e w'=>e = .returned (nxtV st (nxt st c)) ∧ w = w':=by
  have hd:isD c = (decide (48 ≤ (c.toNat:Int)) && decide ((c.toNat:Int) ≤ 57)):=by
    unfold isD
    rw [Bool.eq_iff_iff]
    simp
    omega
  rw [nxt_B,hd]
  have key:∀ s:Nat,s ≤ 8 → s = 0 ∨ s = 1 ∨ s = 2 ∨ s = 3 ∨ s = 4 ∨ s = 5 ∨ s = 6 ∨ s = 7 ∨ s = 8:=fun s hs=>by omega
  rcases key st h with rfl | rfl | rfl | rfl | rfl | rfl | rfl | rfl | rfl
  · exact next_0 _ _ _ _ _ _ _ _ _ w rfl rfl (beq_c c 45 (by decide)) (beq_c c 48 (by decide)) (beq_c c 46 (by decide)) (beq_c c 101 (by decide)) (beq_c c 69 (by decide)) (beq_c c 43 (by decide))
  · exact next_1 _ _ _ _ _ _ _ _ _ w rfl rfl (beq_c c 45 (by decide)) (beq_c c 48 (by decide)) (beq_c c 46 (by decide)) (beq_c c 101 (by decide)) (beq_c c 69 (by decide)) (beq_c c 43 (by decide))
  · exact next_2 _ _ _ _ _ _ _ _ _ w rfl rfl (beq_c c 45 (by decide)) (beq_c c 48 (by decide)) (beq_c c 46 (by decide)) (beq_c c 101 (by decide)) (beq_c c 69 (by decide)) (beq_c c 43 (by decide))
  · exact next_3 _ _ _ _ _ _ _ _ _ w rfl rfl (beq_c c 45 (by decide)) (beq_c c 48 (by decide)) (beq_c c 46 (by decide)) (beq_c c 101 (by decide)) (beq_c c 69 (by decide)) (beq_c c 43 (by decide))
  · exact next_4 _ _ _ _ _ _ _ _ _ w rfl rfl (beq_c c 45 (by decide)) (beq_c c 48 (by decide)) (beq_c c 46 (by decide)) (beq_c c 101 (by decide)) (beq_c c 69 (by decide)) (beq_c c 43 (by decide))
  · exact next_5 _ _ _ _ _ _ _ _ _ w rfl rfl (beq_c c 45 (by decide)) (beq_c c 48 (by decide)) (beq_c c 46 (by decide)) (beq_c c 101 (by decide)) (beq_c c 69 (by decide)) (beq_c c 43 (by decide))
  · exact next_6 _ _ _ _ _ _ _ _ _ w rfl rfl (beq_c c 45 (by decide)) (beq_c c 48 (by decide)) (beq_c c 46 (by decide)) (beq_c c 101 (by decide)) (beq_c c 69 (by decide)) (beq_c c 43 (by decide))
  · exact next_7 _ _ _ _ _ _ _ _ _ w rfl rfl (beq_c c 45 (by decide)) (beq_c c 48 (by decide)) (beq_c c 46 (by decide)) (beq_c c 101 (by decide)) (beq_c c 69 (by decide)) (beq_c c 43 (by decide))
  · exact next_8 _ _ _ _ _ _ _ _ _ w rfl rfl (beq_c c 45 (by decide)) (beq_c c 48 (by decide)) (beq_c c 46 (by decide)) (beq_c c 101 (by decide)) (beq_c c 69 (by decide)) (beq_c c 43 (by decide))
end Go.Proofs.YtgmholdkdppbmaaGreatDoor.Lx
