/-
  Proved: plain facts on numbers as bytes and as decimal digits: that what is written is read back, step by step. Conditions: as each theorem says. No program is in sight.
  Proved: what the Go functions of package num, and of orielref1, return for every argument; and that both return the same. Conditions: a text has at most maxLen bytes.
  Proved: small facts on a row of bytes in memory that is known byte by byte: read, written, turned into a text, made of a text. Conditions: as each theorem says.
-/
import Derived.Laws.Bits64b
import Derived.Laws.BytesArg
import Derived.Test.YtifhnpkapgaboaaGreatRows
import Derived.WalkKit
import Derived.WalkLawsBesides
import Derived.WalkSpells
import Derived.Outline
import Derived.Lib.Hide
import Derived.Laws.IdiomStrings
set_option linter.unusedVariables false
set_option linter.unusedSimpArgs false
namespace Go.Proofs.YtifhnpkapgaboaaGreat.num
def byteAt (x i:Nat):Int:=(x:Int) / 2 ^ (8 * i) % 256
def bytesTo (x n:Nat):List Int:=(List.range n).map (byteAt x)
def rowTo (x n k:Nat):List Value:=(List.range n).map fun i=>if i < k then .int .u8 (byteAt x i) else .int .u8 0
theorem rowTo_get (x n k j:Nat) (h:j < n):(rowTo x n k)[j]? = some (if j < k then .int .u8 (byteAt x j) else .int .u8 0):=by
 simp [rowTo,h]
theorem rowTo_zero (x n:Nat):rowTo x n 0 = List.replicate n (.int .u8 0):=by
 apply List.ext_getElem?;intro j
 by_cases h:j < n
 ·rw [rowTo_get _ _ _ _ h];simp [h]
 ·simp [rowTo,h]
theorem rowTo_set (x n k:Nat) (h:k < n):(rowTo x n k).set k (.int .u8 (byteAt x k)) = rowTo x n (k + 1):=by
 apply List.ext_getElem?;intro j
 rw [List.getElem?_set]
 by_cases hj:j < n
 ·rw [rowTo_get _ _ _ _ hj,rowTo_get _ _ _ _ hj]
  by_cases e:k = j
  ·subst e;simp [rowTo,h]
  ·have:j < k + 1 ↔ j < k:=by omega
   simp [e,this]
 ·have:¬ k = j:=by omega
  simp [rowTo,hj,this]
theorem rowTo_full (x n:Nat):rowTo x n n = (bytesTo x n).map (Value.int .u8):=by
 apply List.ext_getElem?;intro j
 by_cases h:j < n
 ·rw [rowTo_get _ _ _ _ h];simp [bytesTo,h]
 ·simp [rowTo,bytesTo,h]
theorem two_pow_8 (n:Nat):(2:Nat) ^ (8 * n) = 256 ^ n:=by rw [Nat.pow_mul]
theorem over_iff (x n:Nat):(0:Int) < (x:Int) / 2 ^ (8 * n) ↔ 256 ^ n ≤ x:=by
 rw [show ((2:Int) ^ (8 * n)) = ((2 ^ (8 * n):Nat):Int) from by norm_cast,two_pow_8]
 have h:(0:Nat) < 256 ^ n:=Nat.pow_pos (by omega)
 rw [show ((x:Int) / ((256 ^ n:Nat):Int)) = ((x / 256 ^ n:Nat):Int) from by norm_cast]
 constructor
 ·intro h1
  have h2:0 < x / 256 ^ n:=by omega
  exact (Nat.div_pos_iff.1 h2).2
 ·intro h1
  have:=Nat.div_pos h1 h
  omega
def leGood (x:Nat) (n:Int):Bool:=decide (1 ≤ n) && decide (n ≤ 8) && decide (x < 256 ^ n.toNat)
def leS (x:Nat) (n:Int):ByteArray:=if leGood x n then strOfNums (bytesTo x n.toNat) else ⟨#[]⟩
def leE (x:Nat) (n:Int):Int:=if leGood x n then 0 else 100
theorem le_yes {x:Nat} {n:Int} (h:leGood x n = true):leS x n = strOfNums (bytesTo x n.toNat) ∧ leE x n = 0:=by simp [leS,leE,h]
theorem le_no {x:Nat} {n:Int} (h:leGood x n = false):leS x n = ⟨#[]⟩ ∧ leE x n = 100:=by simp [leS,leE,h]
theorem leGood_iff (x:Nat) (n:Int):leGood x n = true ↔ 1 ≤ n ∧ n ≤ 8 ∧ x < 256 ^ n.toNat:=by simp [leGood,and_assoc]
def ofLeL:List UInt8 → Nat
 | []=>0
 | c :: l=>c.toNat + 256 * ofLeL l
theorem ofLeL_lt:∀ l:List UInt8,ofLeL l < 256 ^ l.length
 | []=>by simp [ofLeL]
 | c :: l=>by
  have ih:=ofLeL_lt l
  have hc:=c.toNat_lt
  simp only [ofLeL,List.length_cons,Nat.pow_succ]
  omega
theorem ofLeL_snoc:∀ (l:List UInt8) (c:UInt8),ofLeL (l ++ [c]) = ofLeL l + c.toNat * 256 ^ l.length
 | [],c=>by simp [ofLeL]
 | d :: l,c=>by
  simp only [List.cons_append,ofLeL,ofLeL_snoc l c,List.length_cons,Nat.pow_succ]
  rw [Nat.mul_add,← Nat.mul_assoc,Nat.mul_comm 256 (c.toNat),Nat.mul_assoc,Nat.mul_comm 256 (256 ^ l.length)]
  omega
theorem pow_le (k:Nat) (h:k ≤ 8):256 ^ k ≤ 18446744073709551616:=by
 have:=Nat.pow_le_pow_right (n:=256) (by omega) h
 exact Nat.le_trans this (by decide)
theorem ofLeL_lt64 (l:List UInt8) (h:l.length ≤ 8):ofLeL l < 18446744073709551616:=Nat.lt_of_lt_of_le (ofLeL_lt l) (pow_le _ h)
theorem or_step (l:List UInt8) (c:UInt8) (h:l.length < 8) :
  bits BinOp.or IntKind.u64 (ofLeL l:Nat) (IntKind.u64.wrap (IntKind.u64.wrap (c.toNat:Int) * 2 ^ (8 * l.length))) = ((ofLeL (l ++ [c]):Nat):Int):=by
 have hc:=c.toNat_lt
 have h1:=ofLeL_lt l
 have h8:256 ^ (l.length + 1) ≤ 18446744073709551616:=pow_le _ (by omega)
 rw [Nat.pow_succ] at h8
 have hlt:c.toNat * 256 ^ l.length < 18446744073709551616:=by
  have:c.toNat * 256 ^ l.length ≤ 255 * 256 ^ l.length:=Nat.mul_le_mul_right _ (by omega)
  omega
 have e1:IntKind.u64.wrap (c.toNat:Int) = (c.toNat:Int):=by rw [IntKind.wrap_u64];omega
 have e2:((c.toNat:Int) * 2 ^ (8 * l.length)) = ((c.toNat * 256 ^ l.length:Nat):Int):=by
  rw [← two_pow_8];push_cast;rfl
 rw [e1,e2,IntKind.wrap_u64,show (((c.toNat * 256 ^ l.length:Nat):Int) % 18446744073709551616) = ((c.toNat * 256 ^ l.length:Nat):Int) from by omega]
 rw [bits_or_u64_nat _ _ (by omega) (by omega),ofLeL_snoc]
 congr 1
 rw [Nat.or_comm,Nat.mul_comm,← two_pow_8,Nat.add_comm,← Nat.two_pow_add_eq_or_of_lt (by rw [two_pow_8];exact h1)]
theorem mul_step (l:List UInt8) (c:UInt8) (h:l.length < 8) :
  IntKind.u64.wrap (IntKind.u64.wrap ((ofLeL l:Nat) * 256) + IntKind.u64.wrap (c.toNat:Int)) = ((ofLeL (c :: l):Nat):Int):=by
 have hc:=c.toNat_lt
 have h1:=ofLeL_lt64 (c :: l) (by simp;omega)
 simp only [IntKind.wrap_u64,ofLeL] at *
 omega
/-! Decimal digits -/
end Go.Proofs.YtifhnpkapgaboaaGreat.num
namespace Go.Proofs.YtifhnpkapgaboaaGreat.num
open Go.RowKit
theorem infoU8:(Tryz.prog.info? 5).map (fun i=>(i.zero,i.size,i.bytes)) = some (some (.int .u8 0),1,1):=by kernel_rfl
theorem conv_own {w:World} {base n cap g:Nat} {zs:List Int} (h:w.ownsRow base 5 1 (.slice (some ⟨g,0,none⟩) n cap) n (zs.map (Value.int .u8))) :
  (convert 72 9 (.slice (some ⟨g,0,none⟩) n cap)).run Tryz.prog w = .ok (.string (strOfNums zs)) w:=by
 have hl:zs.length = n:=by have:=h.1;simpa using this
 refine run_convert_bytes_arg w 72 5 Tryz.underlying72 Tryz.underlying5 g 0 n cap zs hl (fun i hi => ?_) 9 Tryz.underlying9
 rw [Nat.zero_add,h.cellAt i (by omega)]
 simp [show i < zs.length by omega]
def U64 (x:Nat):Prop:=x < 18446744073709551616
theorem bad_cases (x:Nat) (n:Int) (hx:U64 x) (h:leGood x n = false):n < 1 ∨ 8 < n ∨ (1 ≤ n ∧ n < 8 ∧ 256 ^ n.toNat ≤ x):=by
 have:=mt (leGood_iff x n).2 (by simp [h])
 rcases Int.lt_or_le n 1 with h1 | h1
 ·exact .inl h1
 rcases Int.lt_or_le 8 n with h2 | h2
 ·exact .inr (.inl h2)
 rcases Int.lt_or_le n 8 with h3 | h3
 ·exact .inr (.inr ⟨h1,h3,by omega⟩)
 ·obtain rfl:n = 8:=by omega
  exact absurd ⟨by omega,by omega,Nat.lt_of_lt_of_le hx (by decide)⟩ this
set_option maxRecDepth 100000 in
theorem Le_no (x:Nat) (n:Int) (w:World) (hx:U64 x) (h:leGood x n = false) :
  Calls Tryz.prog 67 #[.int .u64 x,.int .i64 n] w fun e w'=>e = .returned (.tuple #[.string ⟨#[]⟩,.int .i64 100]) ∧ Below w.heap.size w w':=by
 rcases bad_cases x n hx h with h1 | h1 | ⟨h1,h2,h3⟩
 ·have hd:decide (n < 1) = true:=by simpa using h1
  clear h hx
  go_enter Tryz.func67,Tryz.ntmps67
  go_wp2
  go_ret2
  exact ⟨rfl,Below.refl _ _⟩
 ·have hd:decide (n < 1) = false:=by simp;omega
  have hd2:decide (8 < n) = true:=by simpa using h1
  clear h hx
  go_enter Tryz.func67,Tryz.ntmps67
  go_wp2
  go_ret2
  exact ⟨rfl,Below.refl _ _⟩
 ·obtain ⟨m,rfl⟩:=Int.eq_ofNat_of_zero_le (show 0 ≤ n by omega)
  have hd:decide ((m:Int) < 1) = false:=by simp;omega
  have hd2:decide (8 < (m:Int)) = false:=by simp;omega
  have hd3:decide (0 < (x:Int) / 2 ^ (8 * m)) = true:=by simpa [over_iff] using h3
  clear h hx h3
  go_enter Tryz.func67,Tryz.ntmps67
  go_wp2
  go_ret2
  exact ⟨rfl,Below.refl _ _⟩
set_option maxRecDepth 100000 in
theorem Le_yes (x n:Nat) (w:World) (h1:1 ≤ n) (h8:n ≤ 8) (hfit:Hid (x < 256 ^ n)) :
  Calls Tryz.prog 67 #[.int .u64 x,.int .i64 n] w fun e w'=>e = .returned (.tuple #[.string (strOfNums (bytesTo x n)),.int .i64 0]) ∧ Below w.heap.size w w':=by
 obtain ⟨i0,hi,hz0,hz1,hz2⟩:=info_parts infoU8
 have hd1:decide ((n:Int) < 1) = false:=by simp;omega
 have hd2:decide (8 < (n:Int)) = false:=by simp;omega
 have hd3:decide (0 < (x:Int) / 2 ^ (8 * n)) = false:=by
  have:=hfit.out
  simp only [decide_eq_false_iff_not,over_iff];omega
 rcases Nat.lt_or_ge n 8 with h7 | h7
 all_goals
  go_enter Tryz.func67,Tryz.ntmps67
  go_wp2_with (at_make;refine wpList_make_full _ rfl _ _ 72 rfl w.heap.size 5 i0 (.int .u8 0) 1 Tryz.underlying72 hi hz0 hz1 .i64 .i64 n n n rfl rfl rfl rfl (by rw [hz2];omega) (by unfold maxLen;omega) (Nat.le_refl _) ?_;intro w1 hown1 hgrow1)
  have hb1:Below w.heap.size w w1:=(Below.refl _ _).grown hgrow1 (Nat.le_refl _) (by simp)
  have hown2:w1.ownsRow w.heap.size 5 1 (.slice (some ⟨w.heap.size,0,none⟩) n n) n (rowTo x n 0):=by
   rw [rowTo_zero];simpa [toList_madeCells_one,Value.cells] using hown1
  clear hown1 hgrow1
  go_loopw [7,29] (fun j i wr=>∃ k:Nat,k ≤ n ∧ i = .int .i64 k ∧ wr.ownsRow w.heap.size 5 1 (.slice (some ⟨w.heap.size,0,none⟩) n n) n (rowTo x n k) ∧ Below w.heap.size w wr) (fun _ i _=>n - (intOf i).toNat)
  case atStart=>exact ⟨0,Nat.zero_le _,rfl,hown2,hb1⟩
  case round =>
   obtain ⟨k,hk,rfl,hown,hbel⟩:=hrel
   by_cases hlt:k < n
   ·have hc:wr.cell? ⟨w.heap.size,k,none⟩ = some (.int .u8 0):=by rw [hown.cellAt k (by omega),rowTo_get _ _ _ _ hlt];simp
    have hf:wr.frozen? ⟨w.heap.size,k,none⟩ = false:=hown.frozenAt k
    have R:=hown.stored k (.int .u8 (byteAt x k))
    rw [rowTo_set x n k hlt] at R
    have R2:=hbel.grown R.2 hbel.size (by intro j h;simp at h;omega)
    have HR:=Lib.hid R.1;have HR2:=Lib.hid R2;clear R R2 hown
    go_wp2
    go_roundw
    case rel=>exact ⟨k + 1,by omega,by go_num,HR.out,HR2.out⟩
    case measure=>simp [intOf];omega
   ·obtain rfl:k = n:=by omega
    rw [rowTo_full] at hown
    have hcv:=conv_own hown
    clear hown
    go_wp2
    go_ret2
    exact ⟨rfl,hbel⟩
theorem Le_any (x:Nat) (n:Int) (w:World) (hx:U64 x) :
  Calls Tryz.prog 67 #[.int .u64 x,.int .i64 n] w fun e w'=>e = .returned (.tuple #[.string (leS x n),.int .i64 (leE x n)]) ∧ Below w.heap.size w w':=by
 by_cases h:leGood x n = true
 ·obtain ⟨h1,h2,h3⟩:=(leGood_iff x n).1 h
  obtain ⟨m,rfl⟩:=Int.eq_ofNat_of_zero_le (show 0 ≤ n by omega)
  rw [(le_yes h).1,(le_yes h).2]
  exact Le_yes x m w (by omega) (by omega) h3
 ·have h:leGood x n = false:=by simpa using h
  rw [(le_no h).1,(le_no h).2]
  exact Le_no x n w hx h
/-! orielref1.Le -/
/-! OfLe -/
def ofLeV (s:ByteArray):Nat:=if s.size < 1 ∨ 8 < s.size then 0 else ofLeL s.data.toList
def ofLeE (s:ByteArray):Int:=if s.size < 1 ∨ 8 < s.size then 100 else 0
theorem take_snoc (s:ByteArray) (k:Nat) (h:k < s.size):s.data.toList.take (k + 1) = s.data.toList.take k ++ [s[k]]:=by
 rw [List.take_succ_eq_append_getElem (by simpa using h)];rfl
theorem drop_cons (s:ByteArray) (k:Nat) (h:k < s.size):s.data.toList.drop k = s[k] :: s.data.toList.drop (k + 1):=by
 rw [List.drop_eq_getElem_cons (by simpa using h)];rfl
theorem list_len (s:ByteArray):s.data.toList.length = s.size:=by simp
set_option maxRecDepth 100000 in
theorem OfLe_any (s:ByteArray) (w:World) (hs:s.size ≤ maxLen) :
  Calls Tryz.prog 81 #[.string s] w fun e w'=>e = .returned (.tuple #[.int .u64 (ofLeV s),.int .i64 (ofLeE s)]) ∧ w = w':=by
 unfold maxLen at hs
 by_cases h0:s.size < 1
 ·have HE:Hid (ofLeV s = 0 ∧ ofLeE s = 100):=by simp [Hid,ofLeV,ofLeE,h0]
  have hd:decide ((s.size:Int) < 1) = true:=by simp;omega
  go_enter Tryz.func81,Tryz.ntmps81
  go_wp2
  go_ret2
  exact ⟨by rw [HE.out.1,HE.out.2];rfl,rfl⟩
 by_cases h9:8 < s.size
 ·have HE:Hid (ofLeV s = 0 ∧ ofLeE s = 100):=by simp [Hid,ofLeV,ofLeE,h9]
  have hd:decide ((s.size:Int) < 1) = false:=by simp;omega
  have hd2:decide (8 < (s.size:Int)) = true:=by simp;omega
  go_enter Tryz.func81,Tryz.ntmps81
  go_wp2
  go_ret2
  exact ⟨by rw [HE.out.1,HE.out.2];rfl,rfl⟩
 have HE:Hid (ofLeV s = ofLeL s.data.toList ∧ ofLeE s = 0):=by simp [Hid,ofLeV,ofLeE,h0,h9]
 have hd1:decide ((s.size:Int) < 1) = false:=by simp;omega
 have hd2:decide (8 < (s.size:Int)) = false:=by simp;omega
 go_enter Tryz.func81,Tryz.ntmps81
 go_wp2
 go_loop [4,5,16] (fun x j i=>∃ k:Nat,k ≤ s.size ∧ i = .int .i64 k ∧ x = .int .u64 (ofLeL (s.data.toList.take k):Nat)) (fun _ _ i=>s.size - (intOf i).toNat)
 case atStart=>exact ⟨0,Nat.zero_le _,rfl,by simp [ofLeL]⟩
 case round =>
  obtain ⟨k,hk,rfl,rfl⟩:=hrel
  by_cases hlt:k < s.size
  ·have hl:(s.data.toList.take k).length = k:=by rw [List.length_take,list_len];omega
   have HS:Hid (bits BinOp.or IntKind.u64 (ofLeL (s.data.toList.take k):Nat) (IntKind.u64.wrap (IntKind.u64.wrap (s[k].toNat:Int) * 2 ^ (8 * k))) = ((ofLeL (s.data.toList.take (k + 1)):Nat):Int)):=by
    have:=or_step (s.data.toList.take k) s[k] (by omega)
    rw [hl] at this
    rw [take_snoc s k hlt];exact this
   clear hl
   generalize ofLeL (s.data.toList.take k) = y at *
   go_wp2
   go_round
   case rel=>exact ⟨k + 1,by omega,by go_num,by rw [HS.out]⟩
   case measure=>simp [intOf];omega
  ·have HT:Hid (s.data.toList.take k = s.data.toList):=List.take_of_length_le (by rw [list_len];omega)
   rw [HT.out]
   generalize ofLeL s.data.toList = y at *
   go_wp2
   go_ret2
   exact ⟨by rw [HE.out.1,HE.out.2];rfl,rfl⟩
set_option maxRecDepth 100000 in
theorem rOfLe_any (s:ByteArray) (w:World) (hs:s.size ≤ maxLen) :
  Calls Tryz.prog 85 #[.string s] w fun e w'=>e = .returned (.tuple #[.int .u64 (ofLeV s),.int .i64 (ofLeE s)]) ∧ w = w':=by
 unfold maxLen at hs
 by_cases h0:s.size < 1
 ·have HE:Hid (ofLeV s = 0 ∧ ofLeE s = 100):=by simp [Hid,ofLeV,ofLeE,h0]
  have hd:decide ((s.size:Int) < 1) = true:=by simp;omega
  go_enter Tryz.func85,Tryz.ntmps85
  go_wp2
  go_ret2
  exact ⟨by rw [HE.out.1,HE.out.2];rfl,rfl⟩
 by_cases h9:8 < s.size
 ·have HE:Hid (ofLeV s = 0 ∧ ofLeE s = 100):=by simp [Hid,ofLeV,ofLeE,h9]
  have hd:decide ((s.size:Int) < 1) = false:=by simp;omega
  have hd2:decide (8 < (s.size:Int)) = true:=by simp;omega
  go_enter Tryz.func85,Tryz.ntmps85
  go_wp2
  go_ret2
  exact ⟨by rw [HE.out.1,HE.out.2];rfl,rfl⟩
 have HE:Hid (ofLeV s = ofLeL s.data.toList ∧ ofLeE s = 0):=by simp [Hid,ofLeV,ofLeE,h0,h9]
 have hd1:decide ((s.size:Int) < 1) = false:=by simp;omega
 have hd2:decide (8 < (s.size:Int)) = false:=by simp;omega
 go_enter Tryz.func85,Tryz.ntmps85
 go_wp2
 go_loop [4,5] (fun x i=>∃ k:Nat,k ≤ s.size ∧ i = .int .i64 ((k:Int) - 1) ∧ x = .int .u64 (ofLeL (s.data.toList.drop k):Nat)) (fun _ i=>(intOf i + 1).toNat)
 case atStart=>exact ⟨s.size,Nat.le_refl _,rfl,by rw [List.drop_of_length_le (by rw [list_len];omega)];rfl⟩
 case round =>
  obtain ⟨k,hk,rfl,rfl⟩:=hrel
  by_cases hlt:0 < k
  ·have hl:(s.data.toList.drop k).length < 8:=by rw [List.length_drop,list_len];omega
   have HS:Hid (IntKind.u64.wrap (IntKind.u64.wrap ((ofLeL (s.data.toList.drop k):Nat) * 256) + IntKind.u64.wrap ((s[k - 1]'(by omega)).toNat:Int)) = ((ofLeL (s.data.toList.drop (k - 1)):Nat):Int)):=by
    have:=mul_step (s.data.toList.drop k) (s[k - 1]'(by omega)) hl
    rw [drop_cons s (k - 1) (by omega),show k - 1 + 1 = k from by omega];exact this
   clear hl
   generalize ofLeL (s.data.toList.drop k) = y at *
   go_wp2
   go_round
   case rel=>exact ⟨k - 1,by omega,by go_num,by rw [HS.out]⟩
   case measure=>simp [intOf];omega
  ·obtain rfl:k = 0:=by omega
   rw [List.drop_zero]
   generalize ofLeL s.data.toList = y at *
   go_wp2
   go_ret2
   exact ⟨by rw [HE.out.1,HE.out.2];rfl,rfl⟩
end Go.Proofs.YtifhnpkapgaboaaGreat.num
namespace Go.Proofs.YtifhnpkapgaboaaGreat.row
open Go.RowKit
def byteV (c:UInt8):Value:=.int .u8 (c.toNat:Int)
def RowIs (w:World) (g:Nat) (l:List UInt8):Prop:=
 ∃ cs lo hi,w.heap[g]? = some (.cells cs 5 (lo,hi)) ∧ l.length ≤ lo + (if hi ≤ lo then l.length else 0) ∧ l.length ≤ cs.size ∧ ∀ i,i < l.length → cs[i]? = some (byteV (l.getD i 0))
theorem RowIs.cell {w:World} {g:Nat} {l:List UInt8} (h:RowIs w g l) (i:Nat) (hi:i < l.length):w.cell? ⟨g,i,none⟩ = some (byteV (l.getD i 0)):=by
 obtain ⟨cs,lo,hi',h1,_,_,h2⟩:=h
 simp only [World.cell?,h1]
 simpa using h2 i hi
theorem RowIs.lt {w:World} {g:Nat} {l:List UInt8} (h:RowIs w g l):g < w.heap.size:=by
 obtain ⟨cs,lo,hi',h1,_⟩:=h
 exact (Array.getElem?_eq_some_iff.1 h1).1
theorem RowIs.set {w:World} {g:Nat} {l:List UInt8} (h:RowIs w g l) (i:Nat) (c:UInt8):RowIs (w.setCell ⟨g,i,none⟩ (byteV c)) g (l.set i c):=by
 obtain ⟨cs,lo,hi',h1,h2,h3,h4⟩:=h
 refine ⟨cs.setIfInBounds i (byteV c),lo,hi',?_,by simpa using h2,by simpa using h3,fun j hj => ?_⟩
 ·simp [World.setCell,Array.getElem?_modify,h1]
 ·rw [List.length_set] at hj
  rw [Array.getElem?_setIfInBounds]
  by_cases e:i = j
  ·subst e
   have:i < cs.size:=by omega
   simp [this,hj]
  ·rw [if_neg e,h4 j hj]
   simp [List.getElem?_set,e]
theorem RowIs.of_block {w w':World} {g:Nat} {l:List UInt8} (h:RowIs w g l) (hb:w'.heap[g]? = w.heap[g]?):RowIs w' g l:=by
 obtain ⟨cs,lo,hi',h1,h2⟩:=h
 exact ⟨cs,lo,hi',by rw [hb,h1],h2⟩
theorem RowIs.below {w w':World} {B g:Nat} {l:List UInt8} (h:RowIs w g l) (hb:Below B w w') (hg:g < B):RowIs w' g l:=h.of_block (hb.block g hg)
theorem RowIs.conv {w:World} {g:Nat} {l:List UInt8} (h:RowIs w g l) (cap:Nat) :
  (convert 72 9 (.slice (some ⟨g,0,none⟩) l.length cap)).run Tryz.prog w = .ok (.string ⟨l.toArray⟩) w:=by
 refine run_convert_bytes_back w 72 9 5 ⟨g,0,none⟩ cap l Tryz.underlying72 Tryz.underlying5 Tryz.underlying9 (fun j hj => ?_)
 have e:(⟨g,0,none⟩:Addr).add j = ⟨g,j,none⟩:=by unfold Addr.add;split <;> simp_all
 rw [e,h.cell j hj]
 simp [byteV,hj]
end Go.Proofs.YtifhnpkapgaboaaGreat.row
