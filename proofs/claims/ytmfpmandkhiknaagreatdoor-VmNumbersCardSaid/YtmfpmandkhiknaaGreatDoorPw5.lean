/-
  Proved: what strings.Cut gives at one byte. Conditions: as each theorem says.
  Proved: small facts on a row of bytes in memory that is known byte by byte: read, written, turned into a text, made of a text. Conditions: as each theorem says.
  Proved: what digits and decimal return. Conditions: as each theorem says.
  Proved: what sized and Text return. Conditions: as each theorem says.
  Proved: what the document's own Text returns. Conditions: as each theorem says.
  Proved: what math.Mod returns. Conditions: as each theorem says.
  Proved: what powered returns. Conditions: as each theorem says.
  Proved: what OfText returns. Conditions: as each theorem says.
-/
import Derived.Test.YtmfpmandkhiknaaGreatDoorPw2
import Derived.Test.YtmfpmandkhiknaaGreatDoorPw3
import Derived.Test.YtmfpmandkhiknaaGreatDoorPw4
import Derived.Test.YtmfpmandkhiknaaGreatDoorRows
import Derived.WalkSpells
import Derived.Outline
import Derived.Lib.Hide
import Derived.Lib.IndexLaws
import Derived.WalkKit
import Derived.WalkLawsBesides
import Derived.Laws.BytesArg
import Derived.Laws.IdiomStrings
import Derived.Test.YtmfpmandkhiknaaGreatDoorPw1
import Derived.Shelf.Strings.SlTrimAscii
import Derived.Deep.RegionWith
set_option linter.unusedVariables false
set_option linter.unusedSimpArgs false
namespace Go.Proofs.YtmfpmandkhiknaaGreatDoor.flt
open Go.RowKit
open heap
theorem str_size (l:List UInt8):(⟨l.toArray⟩:ByteArray).size = l.length:=by show l.toArray.size = _;simp
theorem index_no {c:UInt8} {l:List UInt8} (h:c ∉ l):Lib.indexByte l c = -1:=by
 induction l with
 | nil=>rfl
 | cons x r ih =>
  rw [List.mem_cons,not_or] at h
  have:(x == c) = false:=by rw [beq_eq_false_iff_ne];exact fun e=>h.1 e.symm
  rw [Lib.indexByte,this,ih h.2];rfl
theorem index_yes {c:UInt8} {a b:List UInt8} (h:c ∉ a):Lib.indexByte (a ++ c :: b) c = a.length:=by
 induction a with
 | nil=>simp [Lib.indexByte]
 | cons x r ih =>
  rw [List.mem_cons,not_or] at h
  have h1:(x == c) = false:=by rw [beq_eq_false_iff_ne];exact fun e=>h.1 e.symm
  have h2:((r.length:Int) == -1) = false:=by rw [beq_eq_false_iff_ne];omega
  rw [List.cons_append,Lib.indexByte,h1,ih h.2]
  simp only [Bool.false_eq_true,if_false,h2,List.length_cons]
  omega
theorem ext_front (c:UInt8) (a b:List UInt8):(⟨(a ++ c :: b).toArray⟩:ByteArray).extract 0 a.length = ⟨a.toArray⟩:=by
 apply ByteArray.ext
 rw [ByteArray.data_extract]
 apply Array.toList_inj.1
 simp [List.extract_eq_take_drop]
theorem ext_back (c:UInt8) (a b:List UInt8) (n:Nat) (hn:n = (a ++ c :: b).length):(⟨(a ++ c :: b).toArray⟩:ByteArray).extract (a.length + 1) n = ⟨b.toArray⟩:=by
 subst hn
 apply ByteArray.ext
 rw [ByteArray.data_extract]
 apply Array.toList_inj.1
 simp only [List.extract_eq_take_drop,List.drop_append,Array.toList_extract]
 rw [List.drop_eq_nil_of_le (by omega),List.nil_append,show a.length + 1 - a.length = 1 by omega,List.drop_succ_cons,List.drop_zero,List.take_of_length_le (by simp;omega)]
set_option maxRecDepth 100000 in
theorem sCut_no (c:UInt8) (l:List UInt8) (w:World) (h:c ∉ l) (hs:l.length ≤ 9223372036854775807) :
  Calls Tryz.prog 209 #[.string ⟨l.toArray⟩,.string ⟨#[c]⟩] w fun e w'=>e = .returned (.tuple #[.string ⟨l.toArray⟩,.string ⟨#[]⟩,.bool false]) ∧ Below w.heap.size w w':=by
 have HI:=Lib.hid (fun W:World=>Tryz.stringslite_Index_one ⟨l.toArray⟩ c W)
 have HX:=Lib.hid (index_no h)
 clear h
 go_enter Tryz.func209,Tryz.ntmps209
 go_wp2_with fail
 (with_reducible refine (HI.out _).mono ?_);rintro e w1 ⟨rfl,rfl⟩
 rw [HX.out]
 go_wp2
 go_ret3
 exact ⟨rfl,Below.refl _ _⟩
set_option maxRecDepth 100000 in
theorem sCut_yes (c:UInt8) (a b:List UInt8) (w:World) (h:c ∉ a) (hs:(a ++ c :: b).length ≤ 9223372036854775807) :
  Calls Tryz.prog 209 #[.string ⟨(a ++ c :: b).toArray⟩,.string ⟨#[c]⟩] w fun e w'=>e = .returned (.tuple #[.string ⟨a.toArray⟩,.string ⟨b.toArray⟩,.bool true]) ∧ Below w.heap.size w w':=by
 have HI:=Lib.hid (fun W:World=>Tryz.stringslite_Index_one ⟨(a ++ c :: b).toArray⟩ c W)
 have HX:=Lib.hid (index_yes (b:=b) h)
 have z:=str_size (a ++ c :: b)
 have e1:=ext_front c a b
 have e2:=ext_back c a b _ rfl
 have hl:(a ++ c :: b).length = a.length + 1 + b.length:=by simp;omega
 rw [hl] at z e2 hs
 have HD:Hid ((⟨(a ++ c :: b).toArray⟩:ByteArray).data.toList = a ++ c :: b):=by simp [Hid]
 generalize hS:(⟨(a ++ c :: b).toArray⟩:ByteArray) = S at *
 have z1:a.length + 1 ≤ S.size:=by omega
 have z2:S.size ≤ 9223372036854775807:=by omega
 have e2':S.extract (a.length + 1) S.size = ⟨b.toArray⟩:=by rw [z];exact e2
 have q1:IntKind.i64.wrap ((a.length:Int) + 1) = a.length + 1:=by rw [IntKind.wrap_i64];omega
 have i1:(a.length:Int) ≤ S.size:=by omega
 have i2:(a.length:Int) + 1 ≤ S.size:=by omega
 clear h z e2 hS hl hs
 go_enter Tryz.func209,Tryz.ntmps209
 go_wp2_with fail
 (with_reducible refine (HI.out _).mono ?_);rintro e w1 ⟨rfl,rfl⟩
 rw [HD.out,HX.out]
 go_wp2_with fail
 refine reg.region_each (by kernel_rfl) reg.Ext (fun ri v w'=>match ri with
   | 0=>v = .string S
   | 1=>v = .int .i64 a.length
   | 2=>v = .string ⟨a.toArray⟩
   | 3=>v = .string S
   | 4=>v = .int .i64 a.length
   | 5=>v = .string ⟨#[c]⟩
   | 6=>v = .int .i64 1
   | 7=>v = .int .i64 (a.length + 1)
   | 8=>v = .string ⟨b.toArray⟩
   | 9=>v = .string ⟨a.toArray⟩
   | 10=>v = .string ⟨b.toArray⟩
   | 11=>v = .bool true
   | _=>True) reg.Ext.refl reg.Ext.trans ?_ (by kernel_rfl) ?_ ?_
 ·
  intro i v w1 w2 h hx
  rcases i with _|_|_|_|_|_|_|_|_|_|_|_|i
  ·exact h
  ·exact h
  ·exact h
  ·exact h
  ·exact h
  ·exact h
  ·exact h
  ·exact h
  ·exact h
  ·exact h
  ·exact h
  ·exact h
  ·trivial
 ·
  refine ⟨?_,?_,?_,?_,?_,?_,?_,?_,?_,?_,?_,?_,trivial⟩
  ·-- 0: slot 13:=Op.move t0
   intro ra w' hx hs
   have s0:ra.eval (.tmp 0) = .string S:=hs.1
   clear hs
   change Oper.wp _ _ ra w' _ _
   refine reg.wp_value (v:=.string S) (w':=w') ?_ ⟨_,rfl,reg.Ext.refl _,rfl⟩
   intro ρ rc rf rg re
   rw [re] at s0
   simp [execOp,go_sem,rc,rf,rg,s0] <;> first | omega | rfl | decide
  ·-- 1: slot 14:=Op.move t7
   intro ra w' hx hs
   have s7:ra.eval (.tmp 7) = .int .i64 a.length:=hs.1
   clear hs
   change Oper.wp _ _ ra w' _ _
   refine reg.wp_value (v:=.int .i64 a.length) (w':=w') ?_ ⟨_,rfl,reg.Ext.refl _,rfl⟩
   intro ρ rc rf rg re
   rw [re] at s7
   simp [execOp,go_sem,rc,rf,rg,s7] <;> first | omega | rfl | decide
  ·-- 2: slot 15:=Op.slice 9 t13 none (some t14) none
   intro ra w' hx hs
   have s13:ra.eval (.tmp 13) = .string S:=hs.1
   have s14:ra.eval (.tmp 14) = .int .i64 a.length:=hs.2.1
   clear hs
   change Oper.wp _ _ ra w' _ _
   refine reg.wp_value (v:=.string ⟨a.toArray⟩) (w':=w') ?_ ⟨_,rfl,reg.Ext.refl _,rfl⟩
   intro ρ rc rf rg re
   rw [re] at s13 s14
   simp [execOp,go_sem,rc,rf,rg,s13,s14,e1,i1,z1] <;> first | omega | rfl | decide
  ·-- 3: slot 16:=Op.move t0
   intro ra w' hx hs
   have s0:ra.eval (.tmp 0) = .string S:=hs.1
   clear hs
   change Oper.wp _ _ ra w' _ _
   refine reg.wp_value (v:=.string S) (w':=w') ?_ ⟨_,rfl,reg.Ext.refl _,rfl⟩
   intro ρ rc rf rg re
   rw [re] at s0
   simp [execOp,go_sem,rc,rf,rg,s0] <;> first | omega | rfl | decide
  ·-- 4: slot 17:=Op.move t7
   intro ra w' hx hs
   have s7:ra.eval (.tmp 7) = .int .i64 a.length:=hs.1
   clear hs
   change Oper.wp _ _ ra w' _ _
   refine reg.wp_value (v:=.int .i64 a.length) (w':=w') ?_ ⟨_,rfl,reg.Ext.refl _,rfl⟩
   intro ρ rc rf rg re
   rw [re] at s7
   simp [execOp,go_sem,rc,rf,rg,s7] <;> first | omega | rfl | decide
  ·-- 5: slot 18:=Op.move t1
   intro ra w' hx hs
   have s1:ra.eval (.tmp 1) = .string ⟨#[c]⟩:=hs.1
   clear hs
   change Oper.wp _ _ ra w' _ _
   refine reg.wp_value (v:=.string ⟨#[c]⟩) (w':=w') ?_ ⟨_,rfl,reg.Ext.refl _,rfl⟩
   intro ρ rc rf rg re
   rw [re] at s1
   simp [execOp,go_sem,rc,rf,rg,s1] <;> first | omega | rfl | decide
  ·-- 6: slot 19:=Op.call { builtin len,args := #[t18],argTypes := #[9] }
   intro ra w' hx hs
   have s18:ra.eval (.tmp 18) = .string ⟨#[c]⟩:=hs.1
   clear hs
   change Oper.wp _ _ ra w' _ _
   refine reg.wp_value (v:=.int .i64 1) (w':=w') ?_ ⟨_,rfl,reg.Ext.refl _,rfl⟩
   intro ρ rc rf rg re
   rw [re] at s18
   simp [execOp,go_sem,rc,rf,rg,s18] <;> first | omega | rfl | decide
  ·-- 7: slot 20:=Op.binOp BinOp.add 3 t17 t19 3
   intro ra w' hx hs
   have s17:ra.eval (.tmp 17) = .int .i64 a.length:=hs.1
   have s19:ra.eval (.tmp 19) = .int .i64 1:=hs.2.1
   clear hs
   change Oper.wp _ _ ra w' _ _
   refine reg.wp_value (v:=.int .i64 (a.length + 1)) (w':=w') ?_ ⟨_,rfl,reg.Ext.refl _,rfl⟩
   intro ρ rc rf rg re
   rw [re] at s17 s19
   simp [execOp,go_sem,rc,rf,rg,s17,s19,q1] <;> first | omega | rfl | decide
  ·-- 8: slot 21:=Op.slice 9 t16 (some t20) none none
   intro ra w' hx hs
   have s16:ra.eval (.tmp 16) = .string S:=hs.1
   have s20:ra.eval (.tmp 20) = .int .i64 (a.length + 1):=hs.2.1
   clear hs
   change Oper.wp _ _ ra w' _ _
   refine reg.wp_value (v:=.string ⟨b.toArray⟩) (w':=w') ?_ ⟨_,rfl,reg.Ext.refl _,rfl⟩
   intro ρ rc rf rg re
   rw [re] at s16 s20
   simp [execOp,go_sem,rc,rf,rg,s16,s20,e2',i2,z1] <;> first | omega | rfl | decide
  ·-- 9: slot 4:=Op.assign t15
   intro ra w' hx hs
   have s15:ra.eval (.tmp 15) = .string ⟨a.toArray⟩:=hs.1
   clear hs
   change Oper.wp _ _ ra w' _ _
   refine reg.wp_value (v:=.string ⟨a.toArray⟩) (w':=w') ?_ ⟨_,rfl,reg.Ext.refl _,rfl⟩
   intro ρ rc rf rg re
   rw [re] at s15
   simp [execOp,go_sem,rc,rf,rg,s15] <;> first | omega | rfl | decide
  ·-- 10: slot 5:=Op.assign t21
   intro ra w' hx hs
   have s21:ra.eval (.tmp 21) = .string ⟨b.toArray⟩:=hs.1
   clear hs
   change Oper.wp _ _ ra w' _ _
   refine reg.wp_value (v:=.string ⟨b.toArray⟩) (w':=w') ?_ ⟨_,rfl,reg.Ext.refl _,rfl⟩
   intro ρ rc rf rg re
   rw [re] at s21
   simp [execOp,go_sem,rc,rf,rg,s21] <;> first | omega | rfl | decide
  ·-- 11: slot 6:=Op.assign (const (Value.bool true))
   intro ra w' hx hs
   clear hs
   change Oper.wp _ _ ra w' _ _
   refine reg.wp_value (v:=.bool true) (w':=w') ?_ ⟨_,rfl,reg.Ext.refl _,rfl⟩
   intro ρ rc rf rg re
   simp [execOp,go_sem,rc,rf,rg] <;> first | omega | rfl | decide
 intro rV w2 hx hf
 have ve0:rV 0 = .string S:=hf 0 (by decide)
 have ve1:rV 1 = .int .i64 a.length:=hf 1 (by decide)
 have ve2:rV 2 = .string ⟨a.toArray⟩:=hf 2 (by decide)
 have ve3:rV 3 = .string S:=hf 3 (by decide)
 have ve4:rV 4 = .int .i64 a.length:=hf 4 (by decide)
 have ve5:rV 5 = .string ⟨#[c]⟩:=hf 5 (by decide)
 have ve6:rV 6 = .int .i64 1:=hf 6 (by decide)
 have ve7:rV 7 = .int .i64 (a.length + 1):=hf 7 (by decide)
 have ve8:rV 8 = .string ⟨b.toArray⟩:=hf 8 (by decide)
 have ve9:rV 9 = .string ⟨a.toArray⟩:=hf 9 (by decide)
 have ve10:rV 10 = .string ⟨b.toArray⟩:=hf 10 (by decide)
 have ve11:rV 11 = .bool true:=hf 11 (by decide)
 clear hf
 simp only [List.zipIdx_cons,List.zipIdx_nil,List.foldl_cons,List.foldl_nil,Act.put,Nat.reduceAdd,List.setIfInBounds_toArray,List.set_cons_succ,List.set_cons_zero,ve0,ve1,ve2,ve3,ve4,ve5,ve6,ve7,ve8,ve9,ve10,ve11]
 clear ve0 ve1 ve2 ve3 ve4 ve5 ve6 ve7 ve8 ve9 ve10 ve11
 clear rV
 go_wp2_with fail
 go_ret3
 exact ⟨rfl,Below.trans (Below.drew (Below.refl _ _)) hx⟩
set_option maxRecDepth 100000 in
theorem Cut_no (c:UInt8) (l:List UInt8) (w:World) (h:c ∉ l) (hs:l.length ≤ 9223372036854775807) :
  Calls Tryz.prog 191 #[.string ⟨l.toArray⟩,.string ⟨#[c]⟩] w fun e w'=>e = .returned (.tuple #[.string ⟨l.toArray⟩,.string ⟨#[]⟩,.bool false]) ∧ Below w.heap.size w w':=by
 have HI:=Lib.hid (fun W:World=>sCut_no c l W h hs)
 clear h
 go_enter Tryz.func191,Tryz.ntmps191
 go_wp2_with fail
 (with_reducible refine (HI.out _).mono ?_);rintro e w1 ⟨rfl,hb⟩
 go_wp2
 go_ret3
 exact ⟨rfl,hb⟩
set_option maxRecDepth 100000 in
theorem Cut_yes (c:UInt8) (a b:List UInt8) (w:World) (h:c ∉ a) (hs:(a ++ c :: b).length ≤ 9223372036854775807) :
  Calls Tryz.prog 191 #[.string ⟨(a ++ c :: b).toArray⟩,.string ⟨#[c]⟩] w fun e w'=>e = .returned (.tuple #[.string ⟨a.toArray⟩,.string ⟨b.toArray⟩,.bool true]) ∧ Below w.heap.size w w':=by
 have HI:=Lib.hid (fun W:World=>sCut_yes c a b W h hs)
 clear h
 generalize hS:(⟨(a ++ c :: b).toArray⟩:ByteArray) = S at *
 clear hS hs
 go_enter Tryz.func191,Tryz.ntmps191
 go_wp2_with fail
 (with_reducible refine (HI.out _).mono ?_);rintro e w1 ⟨rfl,hb⟩
 go_wp2
 go_ret3
 exact ⟨rfl,hb⟩
end Go.Proofs.YtmfpmandkhiknaaGreatDoor.flt
namespace Go.Proofs.YtmfpmandkhiknaaGreatDoor.row
open Go.RowKit
def byteV (c:UInt8):Value:=.int .u8 (c.toNat:Int)
def RowIs (w:World) (g:Nat) (l:List UInt8):Prop:=
 ∃ cs lo hi,w.heap[g]? = some (.cells cs 5 (lo,hi)) ∧ l.length ≤ lo + (if hi ≤ lo then l.length else 0) ∧ l.length ≤ cs.size ∧ ∀ i,i < l.length → cs[i]? = some (byteV (l.getD i 0))
theorem RowIs.cell {w:World} {g:Nat} {l:List UInt8} (h:RowIs w g l) (i:Nat) (hi:i < l.length):w.cell? ⟨g,i,none⟩ = some (byteV (l.getD i 0)):=by
 obtain ⟨cs,lo,hi',h1,_,_,h2⟩:=h
 simp only [World.cell?,h1]
 simpa using h2 i hi
theorem RowIs.free {w:World} {g:Nat} {l:List UInt8} (h:RowIs w g l) (i:Nat) (hi:i < l.length):w.frozen? ⟨g,i,none⟩ = false:=by
 obtain ⟨cs,lo,hi',h1,h2,_,_⟩:=h
 simp only [World.frozen?,h1]
 split at h2
 ·simp;omega
 ·simp;omega
theorem RowIs.lt {w:World} {g:Nat} {l:List UInt8} (h:RowIs w g l):g < w.heap.size:=by
 obtain ⟨cs,lo,hi',h1,_⟩:=h
 exact (Array.getElem?_eq_some_iff.1 h1).1
theorem RowIs.set {w:World} {g:Nat} {l:List UInt8} (h:RowIs w g l) (i:Nat) (c:UInt8):RowIs (w.setCell ⟨g,i,none⟩ (byteV c)) g (l.set i c):=by
 obtain ⟨cs,lo,hi',h1,h2,h3,h4⟩:=h
 refine ⟨cs.setIfInBounds i (byteV c),lo,hi',?_,by simpa using h2,by simpa using h3,fun j hj => ?_⟩
 ·simp [World.setCell,Array.getElem?_modify,h1]
 ·rw [List.length_set] at hj
  rw [Array.getElem?_setIfInBounds]
  by_cases e:i = j
  ·subst e
   have:i < cs.size:=by omega
   simp [this,hj]
  ·rw [if_neg e,h4 j hj]
   simp [List.getElem?_set,e]
theorem RowIs.of_block {w w':World} {g:Nat} {l:List UInt8} (h:RowIs w g l) (hb:w'.heap[g]? = w.heap[g]?):RowIs w' g l:=by
 obtain ⟨cs,lo,hi',h1,h2⟩:=h
 exact ⟨cs,lo,hi',by rw [hb,h1],h2⟩
theorem RowIs.below {w w':World} {B g:Nat} {l:List UInt8} (h:RowIs w g l) (hb:Below B w w') (hg:g < B):RowIs w' g l:=h.of_block (hb.block g hg)
theorem RowIs.conv {w:World} {g:Nat} {l:List UInt8} (h:RowIs w g l) (cap:Nat) :
  (convert 58 9 (.slice (some ⟨g,0,none⟩) l.length cap)).run Tryz.prog w = .ok (.string ⟨l.toArray⟩) w:=by
 refine run_convert_bytes_back w 58 9 5 ⟨g,0,none⟩ cap l Tryz.underlying58 Tryz.underlying5 Tryz.underlying9 (fun j hj => ?_)
 have e:(⟨g,0,none⟩:Addr).add j = ⟨g,j,none⟩:=by unfold Addr.add;split <;> simp_all
 rw [e,h.cell j hj]
 simp [byteV,hj]
theorem of_string (w:World) (s:ByteArray):∃ cap w',(convert 9 58 (.string s)).run Tryz.prog w = .ok (.slice (some ⟨w.heap.size,0,none⟩) s.size cap) w' ∧ s.size ≤ cap ∧
  RowIs w' w.heap.size s.data.toList ∧ Below w.heap.size w w':=by
 refine ⟨_,_,run_bytes_of_string w 9 58 5 s Tryz.underlying9 Tryz.underlying58 Tryz.underlying5,grownCap_ge w s.size 0 5,⟨_,_,_,heap_alloc_new w.drew _,?_,?_,fun i hi => ?_⟩,(Below.refl w.heap.size w).drew.alloc (Nat.le_refl _) _⟩
 ·simp [bytesRow];omega
 ·simp [bytesRow]
 ·have hi':i < s.data.size:=by simpa using hi
  have hi2:i < s.size:=hi'
  simp [bytesRow,byteV,Array.getElem?_append,hi',hi2]
end Go.Proofs.YtmfpmandkhiknaaGreatDoor.row
namespace Go.Proofs.YtmfpmandkhiknaaGreatDoor.flt
open Go.RowKit Ieee
open num (ret_pair)
open row (RowIs byteV)
set_option maxRecDepth 100000
def isD (c:UInt8):Bool:=decide (48 ≤ c.toNat) && decide (c.toNat ≤ 57)
def digB (l:List UInt8):Bool := !l.isEmpty && l.all isD
def tenS:List UInt8 := [48,49,50,51,52,53,54,55,56,57]
theorem tenS_isD (c:UInt8):tenS.contains c = isD c:=by
 have h:∀ n:Fin 256,tenS.contains (UInt8.ofNat n.val) = isD (UInt8.ofNat n.val):=by decide +kernel
 have:=h ⟨c.toNat,c.toNat_lt⟩
 simpa using this
theorem dropWhile_nil {p:UInt8 → Bool} {l:List UInt8}:l.dropWhile p = [] ↔ l.all p = true:=by
 induction l with
 | nil=>simp
 | cons c r ih =>
  rw [List.dropWhile_cons,List.all_cons]
  cases h:p c
  ·simp
  ·simpa using ih
theorem dropWhile_head {p:UInt8 → Bool} {l:List UInt8} (c:UInt8) (r:List UInt8) (h:l.dropWhile p = c :: r):p c = false:=by
 induction l with
 | nil=>cases h
 | cons x t ih =>
  rw [List.dropWhile_cons] at h
  cases hx:p x
  ·rw [hx] at h;simp at h;rw [← h.1];exact hx
  ·rw [hx] at h;simp at h;exact ih h
theorem trim_nil (l:List UInt8):Lib.trimS l tenS = [] ↔ l.all isD = true:=by
 have hp:(fun c=>tenS.contains c) = isD:=funext tenS_isD
 unfold Lib.trimS Lib.trimLeftS Lib.trimRightS
 rw [dropWhile_nil]
 show List.all _ (fun c=>tenS.contains c) = true ↔ _
 rw [hp,List.all_reverse]
 constructor
 ·intro h
  cases hd:l.reverse.dropWhile isD with
  | nil =>
   rw [dropWhile_nil,List.all_reverse] at hd
   exact hd
  | cons c r =>
   have h1:=dropWhile_head c r hd
   rw [hd,List.all_cons,h1] at h
   cases h
 ·intro h
  have:l.reverse.dropWhile isD = []:=by rw [dropWhile_nil,List.all_reverse];exact h
  rw [this];rfl
theorem Trim_ten (l:List UInt8) (w:World) (hs:l.length ≤ 9223372036854775807) :
  Calls Tryz.prog 210 #[.string ⟨l.toArray⟩,.string ⟨#[48,49,50,51,52,53,54,55,56,57]⟩] w fun e w'=>e = .returned (.string ⟨(Lib.trimS l tenS).toArray⟩) ∧ Below w.heap.size w w':=
 Go.Proofs.Any.strings_Trim_laid Tryz.lays160 (by kernel_rfl) ⟨l.toArray⟩ ⟨#[48,49,50,51,52,53,54,55,56,57]⟩ w (by rw [str_size];exact hs) (by decide) (Go.Proofs.ascii_of_all (by decide))
theorem digits_any (l:List UInt8) (w:World) (hs:l.length ≤ 9223372036854775807) :
  Calls Tryz.prog 192 #[.string ⟨l.toArray⟩] w fun e w'=>e = .returned (.bool (digB l)) ∧ Below w.heap.size w w':=by
 have HT:=Lib.hid (fun W=>Trim_ten l W hs)
 have ht:=trim_nil l
 unfold digB
 cases hl:l with
 | nil =>
  subst hl
  clear HT ht hs
  go_enter Tryz.func192,Tryz.ntmps192
  go_wp2_with fail
  go_ret
  exact ⟨rfl,Below.refl _ _⟩
 | cons c r =>
  have hne:l.isEmpty = false:=by rw [hl];rfl
  rw [← hl]
  generalize Lib.trimS l tenS = R at *
  generalize l.all isD = A at *
  have hS:(!(⟨l.toArray⟩:ByteArray).toList.isEmpty) = true:=by
   rw [Lib.toList_data];simp [hl]
  have hS2:¬ (⟨l.toArray⟩:ByteArray).toList = []:=by rw [Lib.toList_data];simp [hl]
  have HA:Hid (A = R.isEmpty):=by
   rw [Hid,Bool.eq_iff_iff,← ht,List.isEmpty_iff]
  rw [hne]
  clear ht hs hne hl
  generalize (⟨l.toArray⟩:ByteArray) = S at *
  cases R with
  | nil =>
   go_enter Tryz.func192,Tryz.ntmps192
   go_wp2_with (go_at_call 210;refine (HT.out _).mono ?_;rintro e w1 ⟨rfl,hb⟩)
   go_ret
   exact ⟨ret_b (by rw [HA.out];rfl),hb⟩
  | cons x t =>
   have hR:(⟨(x :: t).toArray⟩:ByteArray).toList.isEmpty = false:=by rw [Lib.toList_data];rfl
   have hR2:¬ (⟨(x :: t).toArray⟩:ByteArray).toList = []:=by rw [Lib.toList_data];simp
   generalize (⟨(x :: t).toArray⟩:ByteArray) = RR at *
   go_enter Tryz.func192,Tryz.ntmps192
   go_wp2_with (go_at_call 210;refine (HT.out _).mono ?_;rintro e w1 ⟨rfl,hb⟩)
   go_ret
   exact ⟨ret_b (by rw [HA.out];simp_all),hb⟩
def numL (l:List UInt8):Nat:=l.foldl (fun x c=>x * 10 + (c.toNat - 48)) 0
theorem numL_snoc (l:List UInt8) (c:UInt8):numL (l ++ [c]) = numL l * 10 + (c.toNat - 48):=by unfold numL;rw [List.foldl_append];rfl
theorem numL_lt (l:List UInt8) (h:l.all isD = true):numL l < 10 ^ l.length:=by
 generalize hn:l.length = n
 induction n generalizing l with
 | zero=>rw [List.length_eq_zero_iff.1 hn];decide
 | succ n ih =>
  rcases List.eq_nil_or_concat l with rfl | ⟨r,c,rfl⟩
  ·cases hn
  ·rw [List.concat_eq_append] at *
   rw [numL_snoc]
   rw [List.all_append,Bool.and_eq_true] at h
   have h1:=ih r h.1 (by simpa using hn)
   have h2:isD c = true:=by simpa using h.2
   unfold isD at h2
   simp only [Bool.and_eq_true,decide_eq_true_iff] at h2
   rw [Nat.pow_succ]
   omega
def decOk (f b:List UInt8) (pt:Bool):Bool:=digB f && (!pt || digB b) && decide (f.length + b.length ≤ 15)
def decQ (f b:List UInt8):Nat:=(fop .quo (fl (numL (f ++ b))) (fl (10 ^ b.length))).getD 0
def decV (f b:List UInt8) (pt:Bool):Nat:=if decOk f b pt then decQ f b else 0
theorem ten_fl:(4621819117588971520:Nat) = fl 10:=by decide +kernel
theorem zero_fl:(0:Nat) = fl 0:=by decide +kernel
theorem one_fl:(4607182418800017408:Nat) = fl 1:=by decide +kernel
theorem quot_num (s t:Bool) (m n:Nat) (i j:Int) (hn:n ≠ 0):∃ M P,(Datum.number s m i).quotient 54 (.number t n j) = some (.number (s ^^ t) M P):=by
 simp only [Datum.quotient,hn,if_false]
 exact ⟨_,_,rfl⟩
theorem quo_some (a b:Nat) (ha:fin a) (hb:b < INF) (h0:0 < b):∃ r,fop .quo a b = some r ∧ r < 18446744073709551616:=by
 have hs:sg b ≠ 0:=by
  intro h
  have:=mg_lt h0
  rw [← mg_def b,h,Nat.zero_mul] at this
  omega
 obtain ⟨M,P,h⟩:=quot_num (sgn a) false (sg (rung a)) (sg b) (-1074 + (pl (rung a):Nat)) (-1074 + (pl b:Nat)) hs
 rw [← read_fin a ha,← pread b hb] at h
 have h2:fop .quo a b = some (double.nearest (sgn a ^^ false) M P):=by
  show ((double.read a).quotient 54 (double.read b)).map double.write = _
  rw [h]
  rfl
 exact ⟨_,h2,fop_lt h2⟩
theorem fl_pos (n:Nat) (h0:0 < n) (h:n ≤ 9007199254740992):fl n < INF ∧ 0 < fl n:=by
 have h1:=fin_fl n h
 have h2:=sgn_fl n
 have h3:fl n < INF:=by
  have:=h1.2
  unfold rung at this
  unfold sgn at h2
  have h4:=of_decide_eq_false h2
  unfold INF
  omega
 refine ⟨h3,?_⟩
 rcases Nat.eq_zero_or_pos (fl n) with h4 | h4
 ·exfalso
  have:=val_fl n h
  rw [h4] at this
  have h5:val 0 = 0:=by unfold val rung;rw [Nat.zero_mod,mg_zero];split <;> rfl
  rw [h5] at this
  have h6:0 < n * 2 ^ PP:=Nat.mul_pos h0 (Nat.two_pow_pos _)
  omega
 ·exact h4
def DecAt (L:List UInt8) (p k:Nat) (x y:Value):Prop:=k ≤ L.length ∧ x = fv (fl (numL (L.take k))) ∧ y = fv (fl (10 ^ (k - p)))
theorem pow_le15 (k:Nat) (h:k ≤ 15):10 ^ k ≤ 1000000000000000:=by
 have:10 ^ k ≤ 10 ^ 15:=Nat.pow_le_pow_right (by omega) h
 exact this
theorem decimal_no (S:ByteArray) (f b:List UInt8) (pt:Bool) (w:World) (hf:f.length ≤ 1000000000000000000) (hb:b.length ≤ 1000000000000000000)
  (HC:Hid (∀ W,Calls Tryz.prog 191 #[.string S,.string ⟨#[46]⟩] W fun e w'=>e = .returned (.tuple #[.string ⟨f.toArray⟩,.string ⟨b.toArray⟩,.bool pt]) ∧ Below W.heap.size W w'))
  (hok:decOk f b pt = false):Calls Tryz.prog 169 #[.string S] w fun e w'=>e = .returned (.tuple #[fv 0,.bool false]) ∧ Below w.heap.size w w':=by
 have HF:=Lib.hid (fun W=>digits_any f W (by omega))
 have HB:=Lib.hid (fun W=>digits_any b W (by omega))
 unfold decOk at hok
 have z1:(⟨f.toArray⟩:ByteArray).size = f.length:=str_size f
 have z2:(⟨b.toArray⟩:ByteArray).size = b.length:=str_size b
 cases h1:digB f
 ·rw [h1] at HF
  clear hok h1 HB z1 z2
  go_enter Tryz.func169,Tryz.ntmps169
  go_wp2_with (first | (go_at_call 191;refine (HC.out _).mono ?_;rintro e w1 ⟨rfl,hb1⟩) | (go_at_call 192;refine (HF.out _).mono ?_;rintro e w2 ⟨rfl,hb2⟩))
  go_ret2
  exact ⟨rfl,hb1.trans (hb2.mono hb1.size)⟩
 ·rw [h1,Bool.true_and] at hok
  rw [h1] at HF
  cases pt
  ·have hl:15 < f.length + b.length:=by
    have:=hok
    simp at this
    omega
   have hd:decide (15 < ((⟨f.toArray⟩:ByteArray).size:Int) + ((⟨b.toArray⟩:ByteArray).size:Int)) = true:=by rw [z1,z2];exact decide_eq_true (by omega)
   have zz1:(⟨f.toArray⟩:ByteArray).size ≤ 1000000000000000000:=by omega
   have zz2:(⟨b.toArray⟩:ByteArray).size ≤ 1000000000000000000:=by omega
   clear hok h1 z1 z2 hl HB
   generalize (⟨f.toArray⟩:ByteArray) = F at *
   generalize (⟨b.toArray⟩:ByteArray) = B at *
   go_enter Tryz.func169,Tryz.ntmps169
   go_wp2_with (first | (go_at_call 191;refine (HC.out _).mono ?_;rintro e w1 ⟨rfl,hb1⟩) | (go_at_call 192;refine (HF.out _).mono ?_;rintro e w2 ⟨rfl,hb2⟩))
   go_ret2
   exact ⟨rfl,hb1.trans (hb2.mono hb1.size)⟩
  ·cases h2:digB b
   ·rw [h2] at HB
    clear hok h1 h2 z1 z2
    generalize (⟨f.toArray⟩:ByteArray) = F at *
    generalize (⟨b.toArray⟩:ByteArray) = B at *
    go_enter Tryz.func169,Tryz.ntmps169
    go_wp2_with (go_at_call 191;refine (HC.out _).mono ?_;rintro e w1 ⟨rfl,hb1⟩)
    refine (HF.out _).mono ?_;rintro e w2 ⟨rfl,hb2⟩
    go_wp2_with fail
    refine (HB.out _).mono ?_;rintro e w3 ⟨rfl,hb3⟩
    go_wp2_with fail
    go_ret2
    exact ⟨rfl,(hb1.trans (hb2.mono hb1.size)).trans (hb3.mono (Nat.le_trans hb1.size hb2.size))⟩
   ·have hl:15 < f.length + b.length:=by
     have:=hok
     rw [h2] at this
     simp at this
     omega
    rw [h2] at HB
    have hd:decide (15 < ((⟨f.toArray⟩:ByteArray).size:Int) + ((⟨b.toArray⟩:ByteArray).size:Int)) = true:=by rw [z1,z2];exact decide_eq_true (by omega)
    have zz1:(⟨f.toArray⟩:ByteArray).size ≤ 1000000000000000000:=by omega
    have zz2:(⟨b.toArray⟩:ByteArray).size ≤ 1000000000000000000:=by omega
    clear hok h1 h2 z1 z2 hl
    generalize (⟨f.toArray⟩:ByteArray) = F at *
    generalize (⟨b.toArray⟩:ByteArray) = B at *
    go_enter Tryz.func169,Tryz.ntmps169
    go_wp2_with (go_at_call 191;refine (HC.out _).mono ?_;rintro e w1 ⟨rfl,hb1⟩)
    refine (HF.out _).mono ?_;rintro e w2 ⟨rfl,hb2⟩
    go_wp2_with fail
    refine (HB.out _).mono ?_;rintro e w3 ⟨rfl,hb3⟩
    go_wp2_with fail
    go_ret2
    exact ⟨rfl,(hb1.trans (hb2.mono hb1.size)).trans (hb3.mono (Nat.le_trans hb1.size hb2.size))⟩
theorem isD_at {L:List UInt8} (h:L.all isD = true) (k:Nat) (hk:k < L.length):48 ≤ (L.getD k 0).toNat ∧ (L.getD k 0).toNat ≤ 57:=by
 have h1:isD (L.getD k 0) = true:=by
  rw [List.all_eq_true] at h
  apply h
  rw [List.getD_eq_getElem?_getD,List.getElem?_eq_getElem hk]
  exact List.getElem_mem hk
 unfold isD at h1
 simpa using h1
theorem take_getD (L:List UInt8) (k:Nat) (hk:k < L.length):L.take (k + 1) = L.take k ++ [L.getD k 0]:=by
 rw [List.take_succ_eq_append_getElem hk,List.getD_eq_getElem?_getD,List.getElem?_eq_getElem hk]
 rfl
theorem numL_bd (L:List UInt8) (h:L.all isD = true) (hl:L.length ≤ 15) (k:Nat) (hk:k ≤ L.length):numL (L.take k) < 1000000000000000:=by
 have h1:(L.take k).all isD = true:=by
  rw [List.all_eq_true] at h ⊢
  exact fun x hx=>h x (List.mem_of_mem_take hx)
 have h2:=numL_lt _ h1
 rw [List.length_take,Nat.min_eq_left hk] at h2
 have:=pow_le15 k (by omega)
 omega
theorem numL_bd14 (L:List UInt8) (h:L.all isD = true) (hl:L.length ≤ 15) (k:Nat) (hk:k < L.length):numL (L.take k) < 100000000000000:=by
 have h1:(L.take k).all isD = true:=by
  rw [List.all_eq_true] at h ⊢
  exact fun x hx=>h x (List.mem_of_mem_take hx)
 have h2:=numL_lt _ h1
 rw [List.length_take,Nat.min_eq_left (by omega)] at h2
 have:10 ^ k ≤ 10 ^ 14:=Nat.pow_le_pow_right (by omega) (by omega)
 omega
set_option maxHeartbeats 1000000 in
theorem decimal_yes (S:ByteArray) (f b:List UInt8) (pt:Bool) (w:World)
  (HC:Hid (∀ W,Calls Tryz.prog 191 #[.string S,.string ⟨#[46]⟩] W fun e w'=>e = .returned (.tuple #[.string ⟨f.toArray⟩,.string ⟨b.toArray⟩,.bool pt]) ∧ Below W.heap.size W w'))
  (hp:pt = false → b = []) (hok:decOk f b pt = true):Calls Tryz.prog 169 #[.string S] w fun e w'=>e = .returned (.tuple #[fv (decQ f b),.bool true]) ∧ Below w.heap.size w w':=by
 unfold decOk at hok
 simp only [Bool.and_eq_true,decide_eq_true_iff,Bool.or_eq_true,Bool.not_eq_true'] at hok
 obtain ⟨⟨h1,h2⟩,h3⟩:=hok
 have HF:=Lib.hid (fun W=>digits_any f W (by omega))
 rw [h1] at HF
 have HB:=Lib.hid (fun W=>digits_any b W (by omega))
 have hall:(f ++ b).all isD = true:=by
  rw [List.all_append,Bool.and_eq_true]
  unfold digB at h1 h2
  refine ⟨(Bool.and_eq_true_iff.1 h1).2,?_⟩
  rcases h2 with h2 | h2
  ·rw [hp h2];rfl
  ·exact (Bool.and_eq_true_iff.1 h2).2
 have hB2:pt = true → digB b = true:=fun e=>h2.resolve_left (by rw [e];exact Bool.noConfusion)
 have z1:(⟨f.toArray⟩:ByteArray).size = f.length:=str_size f
 have z2:(⟨b.toArray⟩:ByteArray).size = b.length:=str_size b
 have hd:decide (15 < ((⟨f.toArray⟩:ByteArray).size:Int) + ((⟨b.toArray⟩:ByteArray).size:Int)) = false:=by rw [z1,z2];exact decide_eq_false (by omega)
 have hcat:(⟨f.toArray⟩:ByteArray) ++ ⟨b.toArray⟩ = ⟨(f ++ b).toArray⟩:=by
  apply ByteArray.ext
  apply Array.toList_inj.1
  simp [ByteArray.data_append]
 have zL:=str_size (f ++ b)
 have hlen:(f ++ b).length = f.length + b.length:=by simp
 obtain ⟨q,hq,hq64⟩:=quo_some (fl (numL (f ++ b))) (fl (10 ^ b.length)) (fin_fl _ (by have:=numL_lt _ hall;rw [hlen] at this;have:=pow_le15 (f.length + b.length) (by omega);omega))
  (fl_pos _ (Nat.pow_pos (by omega)) (by have:=pow_le15 b.length (by omega);omega)).1 (fl_pos _ (Nat.pow_pos (by omega)) (by have:=pow_le15 b.length (by omega);omega)).2
 have HQ:=Lib.hid hq
 have HQ2:Hid (decQ f b = q):=by unfold Hid decQ;rw [hq];rfl
 have HL:=Lib.hid hall
 have HZ:=Lib.hid hlen
 have zz1:(⟨f.toArray⟩:ByteArray).size ≤ 15:=by omega
 have zz2:(⟨b.toArray⟩:ByteArray).size ≤ 15:=by omega
 have H15:Hid (f.length + b.length ≤ 15):=h3
 have Hz1:=Lib.hid z1
 clear h1 h2 z1 z2 hall hlen hq hq64 hp
 generalize (⟨f.toArray⟩:ByteArray) = F at *
 generalize (⟨b.toArray⟩:ByteArray) = B at *
 generalize hS2:(⟨(f ++ b).toArray⟩:ByteArray) = SS at *
 have HS2:Hid (SS.data.toList = f ++ b):=by unfold Hid;rw [← hS2]
 clear hS2
 generalize f ++ b = L at *
 have zLi:SS.size = L.length:=zL
 clear zL h3
 cases pt
 ·clear hB2 HB
  go_enter Tryz.func169,Tryz.ntmps169
  go_wp2_with (go_at_call 191;refine (HC.out _).mono ?_;rintro e w1 ⟨rfl,hb1⟩)
  refine (HF.out _).mono ?_;rintro e w3 ⟨rfl,hb2⟩
  have hbw:Below w.heap.size w w3:=hb1.trans (hb2.mono hb1.size)
  clear hb1 hb2
  obtain ⟨cap,w4,hconv,hcap,hrow,hbe⟩:=row.of_string w3 SS
  rw [HS2.out] at hrow
  have HR:=Lib.hid hrow
  have HB4:Hid (Below w.heap.size w w4):=hbw.trans (hbe.mono hbw.size)
  clear hbw hbe hrow
  generalize w3.heap.size = g at *
  go_wp2_with fail
  go_loop [7,8,41] (fun x y i=>∃ k:Nat,i = .int .i64 k ∧ DecAt L F.size k x y) (fun _ _ i=>L.length - (intOf i).toNat)
  case atStart=>exact ⟨0,rfl,Nat.zero_le _,congrArg fv zero_fl,by rw [Nat.zero_sub,Nat.pow_zero,← one_fl]⟩
  case round =>
   obtain ⟨k,rfl,hk,rfl,rfl⟩:=hrel
   have hX:=numL_bd L HL.out (by rw [HZ.out];exact H15.out) k hk
   have hk15:k ≤ 15:=Nat.le_trans hk (by rw [HZ.out];exact H15.out)
   have hP:=pow_le15 (k - F.size) (by omega)
   by_cases hlt:k < L.length
   ·have hcell:=HR.out.cell k hlt
    replace hX:=numL_bd14 L HL.out (by rw [HZ.out];exact H15.out) k hlt
    have hcd:=isD_at HL.out k hlt
    have HT:=Lib.hid (take_getD L k hlt)
    unfold row.byteV at hcell
    have HN:=Lib.hid (numL_snoc (L.take k) (L.getD k 0))
    generalize L.getD k 0 = c at *
    generalize hX2:numL (L.take k) = X at *
    have e1:(c.toNat:Int) - 48 = ((c.toNat - 48:Nat):Int):=by omega
    have hfi:floatOfInt .f64 ((c.toNat:Int) - 48) = fl (c.toNat - 48):=by rw [e1,floatOfInt_nat]
    have hmul:=fun W=>run_float_arith (P:=Tryz.prog) W .mul 45 .f64 (fl X) 4621819117588971520 (fl (X * 10)) (by rw [ten_fl];exact mul_int X 10 (by omega) (by omega))
    have hadd:=fun W=>run_float_arith (P:=Tryz.prog) W .add 45 .f64 (fl (X * 10)) (fl (c.toNat - 48)) (fl (X * 10 + (c.toNat - 48))) (add_int (X * 10) (c.toNat - 48) (by omega) (by omega))
    have hmul2:=fun W=>run_float_arith (P:=Tryz.prog) W .mul 45 .f64 (fl (10 ^ (k - F.size))) 4621819117588971520 (fl (10 ^ (k - F.size) * 10)) (by rw [ten_fl];exact mul_int _ 10 (by omega) (by omega))
    have HX:Hid (fl (X * 10 + (c.toNat - 48)) = fl (numL (L.take (k + 1)))):=by rw [Hid,HT.out,HN.out]
    clear hX hP HN HT hX2 e1
    have hc1:=hcd.1
    have hc2:=hcd.2
    clear hcd
    by_cases hge:F.size ≤ k
    ·have HY:Hid (fl (10 ^ (k - F.size) * 10) = fl (10 ^ (k + 1 - F.size))):=by
      rw [Hid,← Nat.pow_succ];congr 2;omega
     have hdg:decide (F.size ≤ k) = true:=decide_eq_true hge
     generalize fl (10 ^ (k - F.size) * 10) = y2 at *
     generalize fl (10 ^ (k - F.size)) = y at *
     generalize fl (X * 10 + (c.toNat - 48)) = x2 at *
     generalize fl (c.toNat - 48) = d at *
     generalize fl (X * 10) = x1 at *
     generalize fl X = x at *
     clear hge
     go_wp2_with fail
     go_round
     case rel=>exact ⟨k + 1,by go_num,by omega,by rw [HX.out],by rw [HY.out]⟩
     case measure=>simp [intOf];omega
    ·have HY:Hid (fl (10 ^ (k - F.size)) = fl (10 ^ (k + 1 - F.size))):=by
      rw [Hid];congr 2;omega
     have hdg:decide (F.size ≤ k) = false:=decide_eq_false hge
     generalize fl (10 ^ (k - F.size)) = y at *
     generalize fl (X * 10 + (c.toNat - 48)) = x2 at *
     generalize fl (c.toNat - 48) = d at *
     generalize fl (X * 10) = x1 at *
     generalize fl X = x at *
     clear hge hmul2
     go_wp2_with fail
     go_round
     case rel=>exact ⟨k + 1,by go_num,by omega,by rw [HX.out],by rw [HY.out]⟩
     case measure=>simp [intOf];omega
   ·obtain rfl:k = L.length:=by omega
    have e5:L.length - F.size = b.length:=by have:=HZ.out;have:=Hz1.out;omega
    have hquo:=fun W=>run_float_arith (P:=Tryz.prog) W .quo 45 .f64 (fl (numL L)) (fl (10 ^ b.length)) q HQ.out
    rw [e5,List.take_length]
    generalize fl (numL L) = x at *
    generalize fl (10 ^ b.length) = y at *
    clear hX hP hk15 e5 HQ
    go_wp2_with fail
    go_ret2
    exact ⟨by rw [HQ2.out];rfl,HB4.out⟩
 ·rw [hB2 rfl] at HB
  clear hB2
  go_enter Tryz.func169,Tryz.ntmps169
  go_wp2_with (go_at_call 191;refine (HC.out _).mono ?_;rintro e w1 ⟨rfl,hb1⟩)
  refine (HF.out _).mono ?_;rintro e w2 ⟨rfl,hb2⟩
  go_wp2_with fail
  refine (HB.out _).mono ?_;rintro e w3 ⟨rfl,hb3⟩
  have hbw:Below w.heap.size w w3:=(hb1.trans (hb2.mono hb1.size)).trans (hb3.mono (Nat.le_trans hb1.size hb2.size))
  clear hb1 hb2 hb3
  obtain ⟨cap,w4,hconv,hcap,hrow,hbe⟩:=row.of_string w3 SS
  rw [HS2.out] at hrow
  have HR:=Lib.hid hrow
  have HB4:Hid (Below w.heap.size w w4):=hbw.trans (hbe.mono hbw.size)
  clear hbw hbe hrow
  generalize w3.heap.size = g at *
  go_wp2_with fail
  go_loop [7,8,41] (fun x y i=>∃ k:Nat,i = .int .i64 k ∧ DecAt L F.size k x y) (fun _ _ i=>L.length - (intOf i).toNat)
  case atStart=>exact ⟨0,rfl,Nat.zero_le _,congrArg fv zero_fl,by rw [Nat.zero_sub,Nat.pow_zero,← one_fl]⟩
  case round =>
   obtain ⟨k,rfl,hk,rfl,rfl⟩:=hrel
   have hX:=numL_bd L HL.out (by rw [HZ.out];exact H15.out) k hk
   have hk15:k ≤ 15:=Nat.le_trans hk (by rw [HZ.out];exact H15.out)
   have hP:=pow_le15 (k - F.size) (by omega)
   by_cases hlt:k < L.length
   ·have hcell:=HR.out.cell k hlt
    replace hX:=numL_bd14 L HL.out (by rw [HZ.out];exact H15.out) k hlt
    have hcd:=isD_at HL.out k hlt
    have HT:=Lib.hid (take_getD L k hlt)
    unfold row.byteV at hcell
    have HN:=Lib.hid (numL_snoc (L.take k) (L.getD k 0))
    generalize L.getD k 0 = c at *
    generalize hX2:numL (L.take k) = X at *
    have e1:(c.toNat:Int) - 48 = ((c.toNat - 48:Nat):Int):=by omega
    have hfi:floatOfInt .f64 ((c.toNat:Int) - 48) = fl (c.toNat - 48):=by rw [e1,floatOfInt_nat]
    have hmul:=fun W=>run_float_arith (P:=Tryz.prog) W .mul 45 .f64 (fl X) 4621819117588971520 (fl (X * 10)) (by rw [ten_fl];exact mul_int X 10 (by omega) (by omega))
    have hadd:=fun W=>run_float_arith (P:=Tryz.prog) W .add 45 .f64 (fl (X * 10)) (fl (c.toNat - 48)) (fl (X * 10 + (c.toNat - 48))) (add_int (X * 10) (c.toNat - 48) (by omega) (by omega))
    have hmul2:=fun W=>run_float_arith (P:=Tryz.prog) W .mul 45 .f64 (fl (10 ^ (k - F.size))) 4621819117588971520 (fl (10 ^ (k - F.size) * 10)) (by rw [ten_fl];exact mul_int _ 10 (by omega) (by omega))
    have HX:Hid (fl (X * 10 + (c.toNat - 48)) = fl (numL (L.take (k + 1)))):=by rw [Hid,HT.out,HN.out]
    clear hX hP HN HT hX2 e1
    have hc1:=hcd.1
    have hc2:=hcd.2
    clear hcd
    by_cases hge:F.size ≤ k
    ·have HY:Hid (fl (10 ^ (k - F.size) * 10) = fl (10 ^ (k + 1 - F.size))):=by
      rw [Hid,← Nat.pow_succ];congr 2;omega
     have hdg:decide (F.size ≤ k) = true:=decide_eq_true hge
     generalize fl (10 ^ (k - F.size) * 10) = y2 at *
     generalize fl (10 ^ (k - F.size)) = y at *
     generalize fl (X * 10 + (c.toNat - 48)) = x2 at *
     generalize fl (c.toNat - 48) = d at *
     generalize fl (X * 10) = x1 at *
     generalize fl X = x at *
     clear hge
     go_wp2_with fail
     go_round
     case rel=>exact ⟨k + 1,by go_num,by omega,by rw [HX.out],by rw [HY.out]⟩
     case measure=>simp [intOf];omega
    ·have HY:Hid (fl (10 ^ (k - F.size)) = fl (10 ^ (k + 1 - F.size))):=by
      rw [Hid];congr 2;omega
     have hdg:decide (F.size ≤ k) = false:=decide_eq_false hge
     generalize fl (10 ^ (k - F.size)) = y at *
     generalize fl (X * 10 + (c.toNat - 48)) = x2 at *
     generalize fl (c.toNat - 48) = d at *
     generalize fl (X * 10) = x1 at *
     generalize fl X = x at *
     clear hge hmul2
     go_wp2_with fail
     go_round
     case rel=>exact ⟨k + 1,by go_num,by omega,by rw [HX.out],by rw [HY.out]⟩
     case measure=>simp [intOf];omega
   ·obtain rfl:k = L.length:=by omega
    have e5:L.length - F.size = b.length:=by have:=HZ.out;have:=Hz1.out;omega
    have hquo:=fun W=>run_float_arith (P:=Tryz.prog) W .quo 45 .f64 (fl (numL L)) (fl (10 ^ b.length)) q HQ.out
    rw [e5,List.take_length]
    generalize fl (numL L) = x at *
    generalize fl (10 ^ b.length) = y at *
    clear hX hP hk15 e5 HQ
    go_wp2_with fail
    go_ret2
    exact ⟨by rw [HQ2.out];rfl,HB4.out⟩
theorem decimal_any (S:ByteArray) (f b:List UInt8) (pt:Bool) (w:World) (hf:f.length ≤ 1000000000000000000) (hb:b.length ≤ 1000000000000000000)
  (HC:Hid (∀ W,Calls Tryz.prog 191 #[.string S,.string ⟨#[46]⟩] W fun e w'=>e = .returned (.tuple #[.string ⟨f.toArray⟩,.string ⟨b.toArray⟩,.bool pt]) ∧ Below W.heap.size W w'))
  (hp:pt = false → b = []):Calls Tryz.prog 169 #[.string S] w fun e w'=>e = .returned (.tuple #[fv (decV f b pt),.bool (decOk f b pt)]) ∧ Below w.heap.size w w':=by
 unfold decV
 cases h:decOk f b pt
 ·exact decimal_no S f b pt w hf hb HC h
 ·exact decimal_yes S f b pt w HC hp h
end Go.Proofs.YtmfpmandkhiknaaGreatDoor.flt
namespace Go.Proofs.YtmfpmandkhiknaaGreatDoor.flt
open Go.RowKit Ieee
open num (U64 decS decL decF_len Dec_any rDec_any ret_str ret_pair bcell)
set_option maxRecDepth 100000
theorem decS_size (x:Nat):(decS x).size ≤ 20:=by
 have:=(decF_len 19 x).2
 show (num.decF 19 x).toArray.size ≤ 20
 rw [List.size_toArray];exact this
def szS (x:Int):ByteArray:=if x < 0 then (⟨#[45]⟩:ByteArray) ++ decS x.natAbs else decS x.natAbs
theorem szS_pos (x:Int) (h:0 ≤ x):szS x = decS x.natAbs:=by unfold szS;rw [if_neg (by omega)]
theorem szS_neg (x:Int) (h:x < 0):szS x = (⟨#[45]⟩:ByteArray) ++ decS x.natAbs:=by unfold szS;rw [if_pos h]
theorem szS_size (x:Int):(szS x).size ≤ 21:=by
 have:=decS_size x.natAbs
 unfold szS
 split
 ·rw [ByteArray.size_append];show 1 + _ ≤ 21;omega
 ·omega
theorem sized_any (x:Int) (w:World) (h1 : -9007199254740992 ≤ x) (h2:x ≤ 9007199254740992):Calls Tryz.prog 159 #[.int .i64 x] w fun e w'=>e = .returned (.string (szS x)) ∧ Below w.heap.size w w':=by
 have hs:=decS_size x.natAbs
 by_cases hx:x < 0
 ·have HZ:=Lib.hid (szS_neg x hx)
  have hd:decide (x < 0) = true:=by simpa using hx
  have hw:IntKind.u64.wrap (-x) = (x.natAbs:Int):=by rw [IntKind.wrap_u64];omega
  have HD:=Lib.hid (fun W=>Dec_any x.natAbs W (show x.natAbs < 18446744073709551616 by omega))
  generalize x.natAbs = n at *
  generalize decS n = D at *
  go_enter Tryz.func159,Tryz.ntmps159
  go_wp2_with (go_at_call 161;refine (HD.out _).mono ?_;rintro e w1 ⟨rfl,hb⟩)
  go_ret
  exact ⟨ret_str HZ.out.symm,hb⟩
 ·have HZ:=Lib.hid (szS_pos x (by omega))
  have hd:decide (x < 0) = false:=by simpa using hx
  have hw:IntKind.u64.wrap x = (x.natAbs:Int):=by rw [IntKind.wrap_u64];omega
  have HD:=Lib.hid (fun W=>Dec_any x.natAbs W (show x.natAbs < 18446744073709551616 by omega))
  generalize x.natAbs = n at *
  generalize decS n = D at *
  go_enter Tryz.func159,Tryz.ntmps159
  go_wp2_with (go_at_call 161;refine (HD.out _).mono ?_;rintro e w1 ⟨rfl,hb⟩)
  go_ret
  exact ⟨ret_str HZ.out.symm,hb⟩
def txtM (a:Nat):ByteArray:=decS (strip 64 (sg a)).1 ++ ⟨#[112]⟩ ++ szS ((pl a:Int) - 1074 + (strip 64 (sg a)).2)
def txtP (a:Nat):ByteArray:=if 9218868437227405312 ≤ a then ⟨#[105,110,102]⟩ else if isW a then szS (wholeN a) else txtM a
def txt (a:Nat):ByteArray:=if nanB a then ⟨#[110,97,110]⟩ else if sgn a then (⟨#[45]⟩:ByteArray) ++ txtP (ng a) else txtP a
theorem txtM_size (a:Nat):(txtM a).size ≤ 42:=by
 have h1:=decS_size (strip 64 (sg a)).1
 have h2:=szS_size ((pl a:Int) - 1074 + (strip 64 (sg a)).2)
 unfold txtM
 rw [ByteArray.size_append,ByteArray.size_append]
 show _ + 1 + _ ≤ 42
 omega
theorem txtP_size (a:Nat):(txtP a).size ≤ 42:=by
 have h1:=txtM_size a
 have h2:=szS_size (wholeN a)
 unfold txtP
 split
 ·show 3 ≤ 42;omega
 ·split <;> omega
theorem txt_size (a:Nat):(txt a).size ≤ 43:=by
 have h1:=txtP_size a
 have h2:=txtP_size (ng a)
 unfold txt
 split
 ·show 3 ≤ 43;omega
 ·split
  ·rw [ByteArray.size_append];show 1 + _ ≤ 43;omega
  ·omega
theorem fin_pos (a:Nat) (h:a < 9218868437227405312):fin a ∧ rung a = a ∧ sgn a = false:=by
 unfold fin rung sgn
 refine ⟨by omega,by omega,decide_eq_false (by omega)⟩
theorem fin_nan (a:Nat) (h:fin a):nanB a = false:=by unfold nanB;rw [read_fin a h];rfl
theorem nan_pos (a:Nat) (h:a < 9223372036854775808) (hn:nanB a = false):a ≤ 9218868437227405312:=by
 rcases fin_cases a (by omega) with hf | ⟨h1,h2⟩ | ⟨h1,h2⟩
 ·have:=hf.2;unfold rung at this;omega
 ·unfold rung at h1;omega
 ·rw [h2] at hn;cases hn
theorem inf_nan:nanB 9218868437227405312 = false:=by decide
theorem gt_max (a:Nat) (h:a ≤ 9218868437227405312):(double.order a 9218868437227405311 == some .gt) = decide (9218868437227405312 ≤ a):=by
 by_cases he:a = 9218868437227405312
 ·subst he;decide +kernel
 ·have h1:=fin_pos a (by omega)
  have h2:=fin_pos 9218868437227405311 (by omega)
  rw [order_fin _ _ h1.1 h2.1]
  have hv:val a ≤ val 9218868437227405311:=by
   unfold val
   rw [h1.2.1,h1.2.2,h2.2.1,h2.2.2]
   simp only [Bool.false_eq_true,if_false]
   have:=mg_lt_iff 9218868437227405311 a
   omega
  rw [Bool.eq_iff_iff,decide_eq_true_iff]
  constructor
  ·intro hh
   have:compare (val a) (val 9218868437227405311) = .gt:=by simpa using hh
   have h3:=(cmp_le (val a) (val 9218868437227405311)).2 hv
   rw [this] at h3
   simp at h3
  ·intro hh;omega
theorem whole_zero:isW 0 = true:=by decide +kernel
theorem wholeN_bd (a:Nat) (h:a < 18446744073709551616) : -9007199254740992 ≤ wholeN a ∧ wholeN a ≤ 9007199254740992:=by
 unfold wholeN
 split
 ·rename_i hw
  have:inW a = true:=by unfold isW at hw;exact (Bool.and_eq_true_iff.1 hw).1
  have:=tr_le a h this
  unfold trI
  split <;> omega
 ·omega
theorem strip_le (f m:Nat):(strip f m).1 ≤ m ∧ (strip f m).2 ≤ f:=by
 induction f generalizing m with
 | zero=>exact ⟨Nat.le_refl _,Nat.le_refl _⟩
 | succ f ih =>
  unfold strip
  split
  ·have:=ih (m / 2);exact ⟨by simp only;omega,by simp only;omega⟩
  ·exact ⟨Nat.le_refl _,by simp⟩
theorem pl_le (a:Nat) (h:a < 9218868437227405312):pl a ≤ 2045:=by unfold pl;omega
theorem txtM_bd (a:Nat) (h:a < 9218868437227405312):(strip 64 (sg a)).1 < 9007199254740992 ∧ -9007199254740992 ≤ (pl a:Int) - 1074 + (strip 64 (sg a)).2 ∧ (pl a:Int) - 1074 + (strip 64 (sg a)).2 ≤ 9007199254740992:=by
 have h1:=strip_le 64 (sg a)
 have h2:=sg_lt a
 have h3:=pl_le a h
 omega
theorem Text_pos (a:Nat) (w:World) (h:a < 9223372036854775808) (hn:nanB a = false):Calls Tryz.prog 120 #[fv a] w fun e w'=>e = .returned (.string (txtP a)) ∧ Below w.heap.size w w':=by
 have hle:=nan_pos a h hn
 have hg:=gt_max a hle
 have ho:(!eqB a a) = false:=by unfold eqB;rw [order_self,hn];rfl
 have ho2:=neR (a:=a) (c:=a) (b:=true) (by rw [Bool.not_eq_false'] at ho;exact ho)
 have hbl:decide (9223372036854775808 ≤ a) = false:=decide_eq_false (by omega)
 have HB:=Lib.hid (fun W=>below_any a W (by omega))
 rw [hbl] at HB
 have HWh:=Lib.hid (fun W=>Whole_any a W (by omega))
 by_cases hi:9218868437227405312 ≤ a
 ·have HT:Hid (txtP a = ⟨#[105,110,102]⟩):=by unfold Hid txtP;rw [if_pos hi]
  rw [decide_eq_true hi] at hg
  replace hg:=gtR hg
  clear hi hle hn h ho hbl HWh
  simp only [Bool.not_true] at ho2
  go_enter Tryz.func120,Tryz.ntmps120
  go_wp2_with (go_at_call 158;refine (HB.out _).mono ?_;rintro e w1 ⟨rfl,rfl⟩)
  go_ret
  exact ⟨ret_str HT.out.symm,Below.refl _ _⟩
 ·rw [decide_eq_false hi] at hg
  replace hg:=gtR hg
  simp only [Bool.not_true] at ho2
  cases hW:isW a
  ·have HT:Hid (txtP a = txtM a):=by unfold Hid txtP;rw [if_neg hi,hW];rfl
   have h0:0 < a:=by
    rcases Nat.eq_zero_or_pos a with rfl | h0
    ·rw [whole_zero] at hW;cases hW
    ·exact h0
   have HPt:=Lib.hid (fun W=>parts_any a W (by omega) h0)
   have hbd:=txtM_bd a (by omega)
   unfold txtM at HT
   rw [hW] at HWh
   generalize (strip 64 (sg a)).1 = m at *
   generalize (pl a:Int) - 1074 + (strip 64 (sg a)).2 = x at *
   have HD:=Lib.hid (fun W=>Dec_any m W (show m < 18446744073709551616 by omega))
   have HZ:=Lib.hid (fun W=>sized_any x W hbd.2.1 hbd.2.2)
   have hs1:=decS_size m
   have hs2:=szS_size x
   have hs3:(decS m ++ (⟨#[112]⟩:ByteArray)).size ≤ 21:=by rw [ByteArray.size_append];show _ + 1 ≤ 21;omega
   generalize decS m = D at *
   generalize szS x = Z at *
   clear hi hle hn h ho hbl hbd hW h0
   generalize hDD:D ++ (⟨#[112]⟩:ByteArray) = DD at *
   have HDD:=Lib.hid hDD
   go_enter Tryz.func120,Tryz.ntmps120
   go_wp2_with (first | (go_at_call 158;refine (HB.out _).mono ?_;rintro e w1 ⟨rfl,rfl⟩) | (go_at_call 155;refine (HWh.out _).mono ?_;rintro e w1 ⟨rfl,rfl⟩) | (go_at_call 160;refine (HPt.out _).mono ?_;rintro e w1 ⟨rfl,rfl⟩))
   go_wp2_with (first | (go_at_call 161;refine (HD.out _).mono ?_;rintro e w1 ⟨rfl,hb1⟩) | (go_at_call 159;refine (HZ.out _).mono ?_;rintro e w2 ⟨rfl,hb2⟩))
   go_ret
   exact ⟨ret_str HT.out.symm,hb1.trans (hb2.mono hb1.size)⟩
  ·have HT:Hid (txtP a = szS (wholeN a)):=by unfold Hid txtP;rw [if_neg hi,hW];rfl
   have hbd:=wholeN_bd a (by omega)
   rw [hW] at HWh
   generalize wholeN a = x at *
   have HZ:=Lib.hid (fun W=>sized_any x W hbd.1 hbd.2)
   clear hi hle hn h ho hbl hbd hW
   go_enter Tryz.func120,Tryz.ntmps120
   go_wp2_with (first | (go_at_call 158;refine (HB.out _).mono ?_;rintro e w1 ⟨rfl,rfl⟩) | (go_at_call 155;refine (HWh.out _).mono ?_;rintro e w1 ⟨rfl,rfl⟩) | (go_at_call 159;refine (HZ.out _).mono ?_;rintro e w1 ⟨rfl,hb⟩))
   go_ret
   exact ⟨ret_str HT.out.symm,hb⟩
theorem Text_any (a:Nat) (w:World) (h:a < 18446744073709551616):Calls Tryz.prog 120 #[fv a] w fun e w'=>e = .returned (.string (txt a)) ∧ Below w.heap.size w w':=by
 cases hn:nanB a
 ·cases hs:sgn a
  ·have e:txt a = txtP a:=by unfold txt;rw [hn,hs];rfl
   rw [e]
   have h1:a < 9223372036854775808:=by unfold sgn at hs;have:=of_decide_eq_false hs;omega
   exact Text_pos a w h1 hn
  ·have HE:Hid (txt a = (⟨#[45]⟩:ByteArray) ++ txtP (ng a)):=by unfold Hid txt;rw [hn,hs];rfl
   have h1:9223372036854775808 ≤ a:=of_decide_eq_true hs
   have h2:ng a < 9223372036854775808:=by unfold ng;rw [if_neg (by omega)];omega
   have h3:nanB (ng a) = false:=by
    rcases fin_cases a h with hf | ⟨h4,h5⟩ | ⟨h4,h5⟩
    ·refine fin_nan _ ?_
     have:=hf.2
     unfold rung at this
     exact (fin_pos _ (by unfold ng;rw [if_neg (by omega)];omega)).1
    ·have:ng a = 9218868437227405312:=by unfold rung at h4;unfold ng;rw [if_neg (by omega)];omega
     rw [this];exact inf_nan
    ·rw [h5] at hn;cases hn
   have hneg:=neg_ng a h
   have HP:=Lib.hid (fun W=>Text_pos (ng a) W h2 h3)
   have hsz:(txtP (ng a)).size ≤ 42:=txtP_size _
   have ho2:=neR (a:=a) (c:=a) (b:=true) (by unfold eqB;rw [order_self,hn];rfl)
   simp only [Bool.not_true] at ho2
   have HB:=Lib.hid (fun W=>below_any a W h)
   rw [decide_eq_true h1] at HB
   generalize txtP (ng a) = T at *
   generalize ng a = b at *
   clear h h1 h2 h3 hs hn
   have hrn:=fun W=>run_neg (P:=Tryz.prog) a W
   rw [hneg] at hrn
   go_enter Tryz.func120,Tryz.ntmps120
   go_wp2_with (first | (go_at_call 158;refine (HB.out _).mono ?_;rintro e w1 ⟨rfl,rfl⟩) | (go_at_call 120;refine (HP.out _).mono ?_;rintro e w1 ⟨rfl,hb⟩))
   go_ret
   exact ⟨ret_str HE.out.symm,hb⟩
 ·have HE:Hid (txt a = ⟨#[110,97,110]⟩):=by unfold Hid txt;rw [hn];rfl
  have ho2:=neR (a:=a) (c:=a) (b:=false) (by unfold eqB;rw [order_self,hn];rfl)
  simp only [Bool.not_false] at ho2
  clear hn h
  go_enter Tryz.func120,Tryz.ntmps120
  go_wp2_with fail
  go_ret
  exact ⟨ret_str HE.out.symm,Below.refl _ _⟩
end Go.Proofs.YtmfpmandkhiknaaGreatDoor.flt
namespace Go.Proofs.YtmfpmandkhiknaaGreatDoor.flt
open Go.RowKit Ieee
open num (U64 decS decL decF_len Dec_any rDec_any ret_str ret_pair bcell)
set_option maxRecDepth 100000
attribute [local go_sem] run_bits run_frombits
theorem endless_any (a:Nat) (w:World) (h:a < 18446744073709551616):Calls Tryz.prog 43 #[fv a] w fun e w'=>e = .returned (.bool (double.order (rung a) 9218868437227405311 == some .gt)) ∧ w = w':=by
 have HS:=Lib.hid (fun W=>size_any a W h)
 show Calls Tryz.prog 43 #[fv a] w fun e w'=>e = .returned (.bool (double.order (a % 9223372036854775808) 9218868437227405311 == some .gt)) ∧ w = w'
 generalize a % 9223372036854775808 = r at *
 go_enter Tryz.func43,Tryz.ntmps43
 go_wp2_with (go_at_call 45;refine (HS.out _).mono ?_;rintro e w1 ⟨rfl,rfl⟩)
 go_ret
 exact ⟨rfl,rfl⟩
theorem mod_two (m:Nat):(m:Int) % 2 = ((m % 2:Nat):Int):=by omega
theorem szN (D:ByteArray) (x:Int) (h:x < 0):D ++ (⟨#[112,45]⟩:ByteArray) ++ decS x.natAbs = D ++ (⟨#[112]⟩:ByteArray) ++ szS x:=by
 rw [szS_neg x h]
 apply ByteArray.ext
 apply Array.toList_inj.1
 simp [ByteArray.data_append]
theorem rText_pos (a:Nat) (w:World) (h:a < 9223372036854775808) (hn:nanB a = false):Calls Tryz.prog 199 #[fv a] w fun e w'=>e = .returned (.string (txtP a)) ∧ Below w.heap.size w w':=by
 have hle:=nan_pos a h hn
 have hg:=gt_max a hle
 have ho2:=neR (a:=a) (c:=a) (b:=true) (by unfold eqB;rw [order_self,hn];rfl)
 have hbl:decide (9223372036854775808 ≤ a) = false:=decide_eq_false (by omega)
 have HB:=Lib.hid (fun W=>rbelow_any a W (by omega))
 have HE:=Lib.hid (fun W=>endless_any a W (by omega))
 have hru:rung a = a:=by unfold rung;omega
 rw [hru] at HE
 rw [hbl] at HB
 have HWh:=Lib.hid (fun W=>rWhole_any a W (by omega))
 by_cases hi:9218868437227405312 ≤ a
 ·have HT:Hid (txtP a = ⟨#[105,110,102]⟩):=by unfold Hid txtP;rw [if_pos hi]
  rw [decide_eq_true hi] at hg
  rw [hg] at HE
  clear hi hle hn h hbl HWh hg hru
  simp only [Bool.not_true] at ho2
  go_enter Tryz.func199,Tryz.ntmps199
  go_wp2_with (first | (go_at_call 46;refine (HB.out _).mono ?_;rintro e w1 ⟨rfl,rfl⟩) | (go_at_call 43;refine (HE.out _).mono ?_;rintro e w1 ⟨rfl,rfl⟩))
  go_ret
  exact ⟨ret_str HT.out.symm,Below.refl _ _⟩
 ·rw [decide_eq_false hi] at hg
  rw [hg] at HE
  simp only [Bool.not_true] at ho2
  cases hW:isW a
  ·have HT:Hid (txtP a = txtM a):=by unfold Hid txtP;rw [if_neg hi,hW];rfl
   have h0:0 < a:=by
    rcases Nat.eq_zero_or_pos a with rfl | h0
    ·rw [whole_zero] at hW;cases hW
    ·exact h0
   have hbd:=txtM_bd a (by omega)
   unfold txtM at HT
   rw [hW] at HWh
   have h1:(a:Int) % 4503599627370496 = ((a % 4503599627370496:Nat):Int):=by omega
   have hq:((a:Int) / 4503599627370496) = ((a / 4503599627370496:Nat):Int):=by omega
   have hx:a / 4503599627370496 ≤ 2046:=by omega
   have hz:a / 4503599627370496 = 0 → sg a = a % 4503599627370496 ∧ (pl a:Int) = 0:=fun h=>⟨(sg_zero a h).1,by rw [(sg_zero a h).2];rfl⟩
   have hp:=sg_pos a
   have hs0:a / 4503599627370496 = 0 → 0 < a % 4503599627370496:=by omega
   have hs1:a % 4503599627370496 < 4503599627370496:=by omega
   have hm1:=(txtM_bd a (by omega)).1
   generalize a % 4503599627370496 = m at *
   generalize a / 4503599627370496 = x at *
   generalize sg a = s at *
   generalize (pl a:Int) = p at *
   obtain ⟨E0,hE0⟩:∃ E0:Int,E0 = p - 1074:=⟨_,rfl⟩
   rw [← hE0] at HT hp
   have HM1:=Lib.hid hm1
   have H1:=Lib.hid h1
   by_cases hx0:x = 0
   ·subst hx0
    obtain ⟨rfl,hp0⟩:=hz rfl
    obtain rfl:E0 = -1074:=by omega
    have hm0:=hs0 rfl
    have HS:=Lib.hid (StripAt.start (s:=s) hm0 (by omega))
    clear hz hp hs0 hp0 hx hE0 hi hle hn h hbl hW h0 hg hru hm1 hbd h1
    replace hq:((a:Int) / 4503599627370496) = 0:=hq
    go_enter Tryz.func199,Tryz.ntmps199
    go_wp2_with (first | (go_at_call 46;refine (HB.out _).mono ?_;rintro e w1 ⟨rfl,rfl⟩) | (go_at_call 43;refine (HE.out _).mono ?_;rintro e w1 ⟨rfl,rfl⟩) | (go_at_call 217;refine (HWh.out _).mono ?_;rintro e w1 ⟨rfl,rfl⟩))
    go_loop [7,6] (fun y i=>∃ m' f k:Nat,y = .int .u64 m' ∧ i = .int .i64 (-1074 + (k:Int)) ∧ StripAt s m' f k) (fun y _=>(intOf y).toNat)
    case atStart=>exact ⟨s,64,0,by rw [H1.out],rfl,HS.out⟩
    case round =>
     obtain ⟨m',f,k,rfl,rfl,hst⟩:=hrel
     have hk:k ≤ 64:=hst.2.2.1
     have hm:0 < m':=hst.2.1
     have ha1:=mod_two m'
     have hwr:=num.wrap_div m' 2 hst.2.2.2.2.2
     by_cases he:m' % 2 = 0
     ·obtain ⟨f',h'⟩:=hst.step he
      have H':=Lib.hid h'
      replace ha1:(m':Int) % 2 = 0:=by rw [ha1,he];rfl
      replace hwr:IntKind.u64.wrap ((m':Int) / 2) = ((m' / 2:Nat):Int):=hwr
      clear he hst h'
      go_wp2
      go_round
      case rel=>exact ⟨m' / 2,f',k + 1,rfl,by go_num,H'.out⟩
      case measure=>simp [intOf];omega
     ·have he1:m' % 2 = 1:=by omega
      have hst2:=hst.stop he1
      replace ha1:(m':Int) % 2 = 1:=by rw [ha1,he1];rfl
      have hm2:=HM1.out
      rw [hst2.1] at HT hm2
      rw [hst2.2] at HT
      clear he he1 hst hst2 HM1 hwr
      have HD:=Lib.hid (fun W=>rDec_any m' W (show m' < 18446744073709551616 by omega))
      have hs1:=decS_size m'
      have hZ0:=fun W=>rDec_any (-1074 + (k:Int)).natAbs W (show (-1074 + (k:Int)).natAbs < 18446744073709551616 by omega)
      have HZ:=Lib.hid hZ0
      have hs2:=decS_size (-1074 + (k:Int)).natAbs
      by_cases hng : -1074 + (k:Int) < 0
      ·have hneg:decide (-1074 + (k:Int) < 0) = true:=decide_eq_true hng
       have hw:IntKind.u64.wrap (-(-1074 + (k:Int))) = ((-1074 + (k:Int)).natAbs:Int):=by rw [IntKind.wrap_u64];omega
       have HC:=Lib.hid (szN (decS m') (-1074 + (k:Int)) hng)
       have hs3:(decS m' ++ (⟨#[112,45]⟩:ByteArray)).size ≤ 22:=by rw [ByteArray.size_append];show _ + 2 ≤ 22;omega
       generalize decS m' = D at *
       generalize (-1074 + (k:Int)).natAbs = N at *
       generalize decS N = Z at *
       generalize hDD:D ++ (⟨#[112,45]⟩:ByteArray) = DD at *
       have HDD:=Lib.hid hDD
       clear hZ0
       go_wp2_with fail
       refine (HD.out _).mono ?_;rintro e w1 ⟨rfl,hb1⟩
       go_wp2_with fail
       refine (HZ.out _).mono ?_;rintro e w2 ⟨rfl,hb2⟩
       go_wp2_with fail
       go_ret
       exact ⟨ret_str (by rw [HT.out,← HC.out]),hb1.trans (hb2.mono hb1.size)⟩
      ·exfalso;omega
   ·obtain ⟨rfl,rfl⟩:=hp hx0
    have HS:=Lib.hid (StripAt.start (s:=4503599627370496 + m) (by omega) (by omega))
    have hx1:1 ≤ x:=by omega
    have hxd:((x:Int) == 0) = false:=beq_eq_false_iff_ne.2 (by omega)
    clear hz hp hs0 hE0 hi hle hn h hbl hW h0 hg hru hm1 hbd hx0
    have hadd:(m:Int) + 4503599627370496 = ((4503599627370496 + m:Nat):Int):=by omega
    have HA:=Lib.hid hadd
    clear hadd
    generalize 4503599627370496 + m = s at *
    go_enter Tryz.func199,Tryz.ntmps199
    go_wp2_with (first | (go_at_call 46;refine (HB.out _).mono ?_;rintro e w1 ⟨rfl,rfl⟩) | (go_at_call 43;refine (HE.out _).mono ?_;rintro e w1 ⟨rfl,rfl⟩) | (go_at_call 217;refine (HWh.out _).mono ?_;rintro e w1 ⟨rfl,rfl⟩))
    go_loop [7,6] (fun y i=>∃ m' f k:Nat,y = .int .u64 m' ∧ i = .int .i64 ((x:Int) - 1075 + (k:Int)) ∧ StripAt s m' f k) (fun y _=>(intOf y).toNat)
    case atStart=>exact ⟨s,64,0,by rw [← HA.out],by simp,HS.out⟩
    case round =>
     obtain ⟨m',f,k,rfl,rfl,hst⟩:=hrel
     have hk:k ≤ 64:=hst.2.2.1
     have hm:0 < m':=hst.2.1
     have ha1:=mod_two m'
     have hwr:=num.wrap_div m' 2 hst.2.2.2.2.2
     by_cases he:m' % 2 = 0
     ·obtain ⟨f',h'⟩:=hst.step he
      have H':=Lib.hid h'
      replace ha1:(m':Int) % 2 = 0:=by rw [ha1,he];rfl
      replace hwr:IntKind.u64.wrap ((m':Int) / 2) = ((m' / 2:Nat):Int):=hwr
      clear he hst h'
      go_wp2
      go_round
      case rel=>exact ⟨m' / 2,f',k + 1,rfl,by go_num,H'.out⟩
      case measure=>simp [intOf];omega
     ·have he1:m' % 2 = 1:=by omega
      have hst2:=hst.stop he1
      replace ha1:(m':Int) % 2 = 1:=by rw [ha1,he1];rfl
      have hm2:=HM1.out
      rw [hst2.1] at HT hm2
      rw [hst2.2] at HT
      clear he he1 hst hst2 HM1 hwr
      have HD:=Lib.hid (fun W=>rDec_any m' W (show m' < 18446744073709551616 by omega))
      have hs1:=decS_size m'
      have hZ0:=fun W=>rDec_any ((x:Int) - 1075 + (k:Int)).natAbs W (show ((x:Int) - 1075 + (k:Int)).natAbs < 18446744073709551616 by omega)
      have HZ:=Lib.hid hZ0
      have hs2:=decS_size ((x:Int) - 1075 + (k:Int)).natAbs
      by_cases hng:(x:Int) - 1075 + (k:Int) < 0
      ·have hneg:decide ((x:Int) - 1075 + (k:Int) < 0) = true:=decide_eq_true hng
       have hw:IntKind.u64.wrap (-((x:Int) - 1075 + (k:Int))) = (((x:Int) - 1075 + (k:Int)).natAbs:Int):=by rw [IntKind.wrap_u64];omega
       have HC:=Lib.hid (szN (decS m') ((x:Int) - 1075 + (k:Int)) hng)
       have hs3:(decS m' ++ (⟨#[112,45]⟩:ByteArray)).size ≤ 22:=by rw [ByteArray.size_append];show _ + 2 ≤ 22;omega
       generalize decS m' = D at *
       generalize ((x:Int) - 1075 + (k:Int)).natAbs = N at *
       generalize decS N = Z at *
       generalize hDD:D ++ (⟨#[112,45]⟩:ByteArray) = DD at *
       have HDD:=Lib.hid hDD
       clear hZ0
       go_wp2_with fail
       refine (HD.out _).mono ?_;rintro e w1 ⟨rfl,hb1⟩
       go_wp2_with fail
       refine (HZ.out _).mono ?_;rintro e w2 ⟨rfl,hb2⟩
       go_wp2_with fail
       go_ret
       exact ⟨ret_str (by rw [HT.out,← HC.out]),hb1.trans (hb2.mono hb1.size)⟩
      ·have hneg:decide ((x:Int) - 1075 + (k:Int) < 0) = false:=decide_eq_false hng
       have hw:IntKind.u64.wrap ((x:Int) - 1075 + (k:Int)) = (((x:Int) - 1075 + (k:Int)).natAbs:Int):=by rw [IntKind.wrap_u64];omega
       have hs3:(decS m' ++ (⟨#[112]⟩:ByteArray)).size ≤ 21:=by rw [ByteArray.size_append];show _ + 1 ≤ 21;omega
       rw [szS_pos _ (by omega)] at HT
       generalize decS m' = D at *
       generalize ((x:Int) - 1075 + (k:Int)).natAbs = N at *
       generalize decS N = Z at *
       generalize hDD:D ++ (⟨#[112]⟩:ByteArray) = DD at *
       have HDD:=Lib.hid hDD
       clear hZ0
       go_wp2_with fail
       refine (HD.out _).mono ?_;rintro e w1 ⟨rfl,hb1⟩
       go_wp2_with fail
       refine (HZ.out _).mono ?_;rintro e w2 ⟨rfl,hb2⟩
       go_wp2_with fail
       go_ret
       exact ⟨ret_str HT.out.symm,hb1.trans (hb2.mono hb1.size)⟩
  ·have HT:Hid (txtP a = szS (wholeN a)):=by unfold Hid txtP;rw [if_neg hi,hW];rfl
   have hbd:=wholeN_bd a (by omega)
   have h0:0 ≤ wholeN a:=by
    unfold wholeN trI
    rw [hW,(show sgn a = false from decide_eq_false (by omega))]
    simp
   rw [hW] at HWh
   rw [szS_pos _ h0] at HT
   generalize wholeN a = x at *
   have hw:IntKind.u64.wrap x = (x.natAbs:Int):=by rw [IntKind.wrap_u64];omega
   have HD:=Lib.hid (fun W=>rDec_any x.natAbs W (show x.natAbs < 18446744073709551616 by omega))
   generalize x.natAbs = n at *
   clear hi hle hn h hbl hbd hW h0 hg hru
   go_enter Tryz.func199,Tryz.ntmps199
   go_wp2_with (first | (go_at_call 46;refine (HB.out _).mono ?_;rintro e w1 ⟨rfl,rfl⟩) | (go_at_call 43;refine (HE.out _).mono ?_;rintro e w1 ⟨rfl,rfl⟩) | (go_at_call 217;refine (HWh.out _).mono ?_;rintro e w1 ⟨rfl,rfl⟩) | (go_at_call 218;refine (HD.out _).mono ?_;rintro e w1 ⟨rfl,hb⟩))
   go_ret
   exact ⟨ret_str HT.out.symm,hb⟩
theorem rText_any (a:Nat) (w:World) (h:a < 18446744073709551616):Calls Tryz.prog 199 #[fv a] w fun e w'=>e = .returned (.string (txt a)) ∧ Below w.heap.size w w':=by
 cases hn:nanB a
 ·cases hs:sgn a
  ·have e:txt a = txtP a:=by unfold txt;rw [hn,hs];rfl
   rw [e]
   have h1:a < 9223372036854775808:=by unfold sgn at hs;have:=of_decide_eq_false hs;omega
   exact rText_pos a w h1 hn
  ·have HE:Hid (txt a = (⟨#[45]⟩:ByteArray) ++ txtP (ng a)):=by unfold Hid txt;rw [hn,hs];rfl
   have h1:9223372036854775808 ≤ a:=of_decide_eq_true hs
   have h2:ng a < 9223372036854775808:=by unfold ng;rw [if_neg (by omega)];omega
   have h3:nanB (ng a) = false:=by
    rcases fin_cases a h with hf | ⟨h4,h5⟩ | ⟨h4,h5⟩
    ·refine fin_nan _ ?_
     have:=hf.2
     unfold rung at this
     exact (fin_pos _ (by unfold ng;rw [if_neg (by omega)];omega)).1
    ·have:ng a = 9218868437227405312:=by unfold rung at h4;unfold ng;rw [if_neg (by omega)];omega
     rw [this];exact inf_nan
    ·rw [h5] at hn;cases hn
   have HP:=Lib.hid (fun W=>rText_pos (ng a) W h2 h3)
   have hsz:(txtP (ng a)).size ≤ 42:=txtP_size _
   have ho2:=neR (a:=a) (c:=a) (b:=true) (by unfold eqB;rw [order_self,hn];rfl)
   simp only [Bool.not_true] at ho2
   have HB:=Lib.hid (fun W=>rbelow_any a W h)
   have HN:=Lib.hid (fun W=>rNeg_any a W h)
   rw [decide_eq_true h1] at HB
   generalize txtP (ng a) = T at *
   generalize ng a = b at *
   clear h h1 h2 h3 hs hn
   go_enter Tryz.func199,Tryz.ntmps199
   go_wp2_with (first | (go_at_call 46;refine (HB.out _).mono ?_;rintro e w1 ⟨rfl,rfl⟩) | (go_at_call 47;refine (HN.out _).mono ?_;rintro e w1 ⟨rfl,rfl⟩) | (go_at_call 199;refine (HP.out _).mono ?_;rintro e w1 ⟨rfl,hb⟩))
   go_ret
   exact ⟨ret_str HE.out.symm,hb⟩
 ·have HE:Hid (txt a = ⟨#[110,97,110]⟩):=by unfold Hid txt;rw [hn];rfl
  have ho2:=neR (a:=a) (c:=a) (b:=false) (by unfold eqB;rw [order_self,hn];rfl)
  simp only [Bool.not_false] at ho2
  clear hn h
  go_enter Tryz.func199,Tryz.ntmps199
  go_wp2_with fail
  go_ret
  exact ⟨ret_str HE.out.symm,Below.refl _ _⟩
end Go.Proofs.YtmfpmandkhiknaaGreatDoor.flt
namespace Go.Proofs.YtmfpmandkhiknaaGreatDoor.flt
open Go.RowKit Ieee
set_option maxRecDepth 100000
attribute [local go_sem] run_bits run_frombits
def NANB:Nat:=9221120237041090561
def md (a b:Nat):Nat:=if eqB b 0 || infB a || nanB a || nanB b then NANB else if infB b then a else wd (sgn a) (modR (rung a) (rung b))
def bitsOf:Value → Nat
 | .float _ b=>b
 | _=>0
theorem inf_cases (a:Nat) (h:a < 18446744073709551616) (h1:infB a = false) (h2:nanB a = false):fin a:=by
 rcases fin_cases a h with hf | ⟨h3,h4⟩ | ⟨h3,h4⟩
 ·exact hf
 ·exfalso
  unfold infB at h1
  rw [h3] at h1
  revert h1
  decide +kernel
 ·rw [h4] at h2;cases h2
theorem inf_rung (a:Nat) (h:a < 18446744073709551616) (h1:infB a = true) (h2:nanB a = false):rung a = 9218868437227405312:=by
 rcases fin_cases a h with hf | ⟨h3,h4⟩ | ⟨h3,h4⟩
 ·rw [infB_fin a hf] at h1;cases h1
 ·exact h3
 ·rw [h4] at h2;cases h2
theorem eqz (a:Nat) (h:fin a) (he:eqB a 0 = false):0 < rung a:=by
 rcases Nat.eq_zero_or_pos (rung a) with h0 | h0
 ·exfalso
  have h1:fin 0:=(pfin 0 (by unfold INF;omega)).1
  rw [eqB_fin a 0 h h1] at he
  have h2:val a = 0:=by unfold val;rw [h0,mg_zero];split <;> rfl
  have h3:val 0 = 0:=by unfold val rung;rw [Nat.zero_mod,mg_zero];split <;> rfl
  rw [h2,h3] at he
  simp at he
 ·exact h0
theorem ltz (a:Nat) (h:fin a):(double.order a 0 == some .lt) = (sgn a && decide (0 < rung a)):=by
 have h1:fin 0:=(pfin 0 (by unfold INF;omega)).1
 have h3:val 0 = 0:=by unfold val rung;rw [Nat.zero_mod,mg_zero];split <;> rfl
 rw [order_fin a 0 h h1,h3]
 have h4:(compare (val a) 0 = .lt) ↔ val a < 0:=by
  simp only [compare,compareOfLessAndEq]
  split
  ·simp;assumption
  ·split <;> simp <;> omega
 rw [Bool.eq_iff_iff]
 simp only [beq_iff_eq,Option.some.injEq,Bool.and_eq_true,decide_eq_true_iff]
 rw [h4]
 unfold val
 cases hs:sgn a
 ·simp
 ·simp only [if_true,true_and]
  have:=mg_lt_iff 0 (rung a)
  rw [mg_zero] at this
  omega
theorem ge_inf (r:Nat) (h:fin r):geB r 9218868437227405312 = false:=by
 have h1:double.read 9218868437227405312 = .infinity false:=by decide +kernel
 unfold geB Format.order
 rw [read_fin r h,h1]
 rfl
theorem ng_wd (a:Nat) (h:a < 18446744073709551616):ng a = wd (!sgn a) (rung a):=by
 unfold ng wd sgn rung
 by_cases h1:a < 9223372036854775808
 ·rw [if_pos h1,decide_eq_false (by omega)];simp;omega
 ·rw [if_neg h1,decide_eq_true (by omega)];simp;omega
theorem mod_nan (a b:Nat) (w:World) (ha:a < 18446744073709551616) (hb:b < 18446744073709551616) (h:(eqB b 0 || infB a || nanB a || nanB b) = true):Calls Tryz.prog 208 #[fv a,fv b] w fun e w'=>e = .returned (fv NANB) ∧ w = w':=by
 have HI:=Lib.hid (fun W=>IsInf_any a W ha)
 have HN:=Lib.hid (fun W=>IsNaN_any a W)
 have HM:=Lib.hid (fun W=>IsNaN_any b W)
 cases h1:eqB b 0
 ·cases h2:infB a
  ·cases h3:nanB a
   ·rw [h1,h2,h3] at h
    replace h:nanB b = true:=h
    rw [h2] at HI;rw [h3] at HN;rw [h] at HM
    replace h1:=eqR h1
    clear h h2 h3 ha hb
    go_enter Tryz.func208,Tryz.ntmps208
    go_wp2_with (first | (go_at_call 222;refine (HI.out _).mono ?_;rintro e w1 ⟨rfl,rfl⟩) | (go_at_call 223;first | ((with_reducible refine (HN.out _).mono ?_);rintro e w1 ⟨rfl,rfl⟩) | ((with_reducible refine (HM.out _).mono ?_);rintro e w1 ⟨rfl,rfl⟩)) | (go_at_call 44;refine (NaN_any _).mono ?_;rintro e w1 ⟨rfl,rfl⟩))
    go_ret
    exact ⟨rfl,rfl⟩
   ·rw [h2] at HI;rw [h3] at HN
    replace h1:=eqR h1
    clear h h2 h3 ha hb HM
    go_enter Tryz.func208,Tryz.ntmps208
    go_wp2_with (first | (go_at_call 222;refine (HI.out _).mono ?_;rintro e w1 ⟨rfl,rfl⟩) | (go_at_call 223;((with_reducible refine (HN.out _).mono ?_);rintro e w1 ⟨rfl,rfl⟩)) | (go_at_call 44;refine (NaN_any _).mono ?_;rintro e w1 ⟨rfl,rfl⟩))
    go_ret
    exact ⟨rfl,rfl⟩
  ·rw [h2] at HI
   replace h1:=eqR h1
   clear h h2 ha hb HM HN
   go_enter Tryz.func208,Tryz.ntmps208
   go_wp2_with (first | (go_at_call 222;refine (HI.out _).mono ?_;rintro e w1 ⟨rfl,rfl⟩) | (go_at_call 44;refine (NaN_any _).mono ?_;rintro e w1 ⟨rfl,rfl⟩))
   go_ret
   exact ⟨rfl,rfl⟩
 ·replace h1:=eqR h1
  clear h ha hb HM HN HI
  go_enter Tryz.func208,Tryz.ntmps208
  go_wp2_with (go_at_call 44;refine (NaN_any _).mono ?_;rintro e w1 ⟨rfl,rfl⟩)
  go_ret
  exact ⟨rfl,rfl⟩
theorem mod_inf (a b:Nat) (w:World) (ha:a < 18446744073709551616) (hb:b < 18446744073709551616) (hfa:fin a) (hnb:nanB b = false) (hib:infB b = true) (he0:eqB b 0 = false):Calls Tryz.prog 208 #[fv a,fv b] w fun e w'=>e = .returned (fv a) ∧ w = w':=by
 have HI:=Lib.hid (fun W=>IsInf_any a W ha)
 rw [infB_fin a hfa] at HI
 have HN:=Lib.hid (fun W=>IsNaN_any a W)
 rw [nan_fin a hfa] at HN
 have HM:=Lib.hid (fun W=>IsNaN_any b W)
 rw [hnb] at HM
 have HA:=Lib.hid (fun W=>Abs_any b W hb)
 rw [inf_rung b hb hib hnb] at HA
 have HFY:=Lib.hid (fun W=>Frexp_inf W)
 replace he0:=eqR he0
 have hg:=geR (ge_inf a hfa)
 have hlt:=ltz a hfa
 cases hL:(sgn a && decide (0 < rung a))
 ·rw [hL] at hlt
  replace hlt:=ltR hlt
  clear hfa hnb hib ha hb hL
  go_enter Tryz.func208,Tryz.ntmps208
  go_wp2_with (first | (go_at_call 222;refine (HI.out _).mono ?_;rintro e w1 ⟨rfl,rfl⟩) | (go_at_call 223;first | ((with_reducible refine (HN.out _).mono ?_);rintro e w1 ⟨rfl,rfl⟩) | ((with_reducible refine (HM.out _).mono ?_);rintro e w1 ⟨rfl,rfl⟩)) | (go_at_call 220;refine (HA.out _).mono ?_;rintro e w1 ⟨rfl,rfl⟩) | (go_at_call 224;refine (HFY.out _).mono ?_;rintro e w1 ⟨rfl,rfl⟩))
  go_loop [7] (fun v=>v = fv a) (fun v=>bitsOf v)
  case atStart=>rfl
  case round =>
   subst hrel
   go_wp2_with fail
   go_ret
   exact ⟨rfl,rfl⟩
 ·rw [hL] at hlt
  replace hlt:=ltR hlt
  have hfn:fin (ng a):=by
   rw [ng_wd a ha];exact fin_wd _ _ hfa.2
  have hgn:=geR (ge_inf (ng a) hfn)
  have hrn:=fun W=>run_neg (P:=Tryz.prog) a W
  rw [neg_ng a ha] at hrn
  have hrn2:=fun W=>run_neg (P:=Tryz.prog) (ng a) W
  rw [neg_ng (ng a) (ng_lt a ha),ng_ng a ha] at hrn2
  clear hfa hnb hib ha hb hL hfn
  generalize ng a = c at *
  go_enter Tryz.func208,Tryz.ntmps208
  go_wp2_with (first | (go_at_call 222;refine (HI.out _).mono ?_;rintro e w1 ⟨rfl,rfl⟩) | (go_at_call 223;first | ((with_reducible refine (HN.out _).mono ?_);rintro e w1 ⟨rfl,rfl⟩) | ((with_reducible refine (HM.out _).mono ?_);rintro e w1 ⟨rfl,rfl⟩)) | (go_at_call 220;refine (HA.out _).mono ?_;rintro e w1 ⟨rfl,rfl⟩) | (go_at_call 224;refine (HFY.out _).mono ?_;rintro e w1 ⟨rfl,rfl⟩))
  go_loop [7] (fun v=>v = fv c) (fun v=>bitsOf v)
  case atStart=>rfl
  case round =>
   subst hrel
   go_wp2_with fail
   go_ret
   exact ⟨rfl,rfl⟩
theorem frE_bd (r:Nat) (h0:0 < r) (h:r < INF) : -1073 ≤ frE r ∧ frE r ≤ 1024:=by
 have:=(nf_ok r h0 h).2
 omega
def ModAt (X y r:Nat):Prop:=r < INF ∧ mg r % mg y = mg X % mg y
theorem ModAt.stop {X y r:Nat} (h:ModAt X y r) (hy:y < INF) (h0:0 < y) (hX:X < INF) (hr:r < y):r = modR X y:=by
 apply mg_inj
 rw [(modR_ok X y hX hy h0).2,← h.2,Nat.mod_eq_of_lt (mg_lt hr)]
set_option maxHeartbeats 2000000 in
theorem mod_pos (a b:Nat) (w:World) (ha:a < 18446744073709551616) (hb:b < 18446744073709551616) (hfa:fin a) (hfb:fin b) (he0:eqB b 0 = false) (hs:sgn a = false):Calls Tryz.prog 208 #[fv a,fv b] w fun e w'=>e = .returned (fv (wd (sgn a) (modR (rung a) (rung b)))) ∧ w = w':=by
 have hnb:=nan_fin b hfb
 have HI:=Lib.hid (fun W=>IsInf_any a W ha)
 rw [infB_fin a hfa] at HI
 have HN:=Lib.hid (fun W=>IsNaN_any a W)
 rw [nan_fin a hfa] at HN
 have HM:=Lib.hid (fun W=>IsNaN_any b W)
 rw [hnb] at HM
 have HA:=Lib.hid (fun W=>Abs_any b W hb)
 have Hy0:=Lib.hid (eqz b hfb he0)
 have HyI:Hid (rung b < INF):=hfb.2
 have HXI:Hid (rung a < INF):=hfa.2
 replace he0:=eqR he0
 have hlt:=ltz a hfa
 have HFY:=Lib.hid (fun W=>Frexp_any (rung b) W Hy0.out HyI.out)
 have Hfy:Hid (frF (rung b) < INF ∧ frF (rung b) = frF (rung b) ∧ frE (rung b) = frE (rung b)):=⟨frF_inf _,rfl,rfl⟩
 have hEy:=(nf_ok (rung b) Hy0.out HyI.out).2
 obtain ⟨hEy1,hEy2⟩:=frE_bd (rung b) Hy0.out HyI.out
 clear hEy
 obtain ⟨fy,hfy⟩:∃ fy,frF (rung b) = fy:=⟨_,rfl⟩
 obtain ⟨ey,hey⟩:∃ ey,frE (rung b) = ey:=⟨_,rfl⟩
 rw [hfy,hey] at HFY
 rw [hey] at hEy1 hEy2
 replace Hfy:Hid (fy < INF ∧ fy = frF (rung b) ∧ ey = frE (rung b)):=⟨by rw [← hfy];exact Hfy.out.1,hfy.symm,hey.symm⟩
 clear hfy hey
 rw [hs,wd_false]
 have hr0:rung a = a:=by unfold sgn at hs;have:=of_decide_eq_false hs;unfold rung;omega
 rw [hr0] at HXI
 rw [hr0]
 rw [hs] at hlt
 replace hlt:=ltR hlt
 simp only [Bool.false_and] at hlt
 have HS:Hid (ModAt a (rung b) a):=⟨HXI.out,rfl⟩
 clear hfa hfb hnb ha hb hs hr0
 generalize rung b = y at *
 obtain ⟨X,hX⟩:∃ X,X = a:=⟨_,rfl⟩
 rw [← hX] at HXI
 replace HS:Hid (ModAt X y a):=by rw [hX];exact HS
 have HX:=Lib.hid hX
 clear hX
 go_enter Tryz.func208,Tryz.ntmps208
 go_wp2_with (first | (go_at_call 222;refine (HI.out _).mono ?_;rintro e w1 ⟨rfl,rfl⟩) | (go_at_call 223;first | ((with_reducible refine (HN.out _).mono ?_);rintro e w1 ⟨rfl,rfl⟩) | ((with_reducible refine (HM.out _).mono ?_);rintro e w1 ⟨rfl,rfl⟩)) | (go_at_call 220;refine (HA.out _).mono ?_;rintro e w1 ⟨rfl,rfl⟩) | (go_at_call 224;refine (HFY.out _).mono ?_;rintro e w1 ⟨rfl,rfl⟩))
 go_loop [7,8,9] (fun v _ _=>∃ r,v = fv r ∧ ModAt X y r) (fun v _ _=>bitsOf v)
 case atStart=>exact ⟨a,rfl,HS.out⟩
 case round =>
  obtain ⟨r,rfl,hst⟩:=hrel
  have hrI:=hst.1
  have hge:=geB_pos r y hrI HyI.out
  by_cases hyr:y ≤ r
  ·rw [decide_eq_true hyr] at hge
   replace hge:=geR hge
   obtain ⟨t,r',h1,h2,h3,h4,h5,h6,h7,h8⟩:=mod_step r y hrI Hy0.out hyr
   have HR':Hid (ModAt X y r'):=⟨h2,by rw [h5];exact hst.2⟩
   have hsub:=fun W=>run_float_arith (P:=Tryz.prog) W .sub 45 .f64 r t r' (sub_exact r t r' hrI h1 h2 h4)
   have HFR:=Lib.hid (fun W=>Frexp_any r W (Nat.lt_of_lt_of_le Hy0.out hyr) hrI)
   have HLD:=Lib.hid (fun W=>Ldexp_any y (stepK r y) W Hy0.out HyI.out (Int.le_trans (by decide) h7) (Int.le_trans h8 (by decide)))
   rw [h3] at HLD
   have hlt:=ltB_pos (frF r) fy (frF_inf r) Hfy.out.1
   have hEr:=(nf_ok r (Nat.lt_of_lt_of_le Hy0.out hyr) hrI).2
   obtain ⟨hEr1,hEr2⟩:=frE_bd r (Nat.lt_of_lt_of_le Hy0.out hyr) hrI
   have H6:=Lib.hid h6
   unfold stepK at HLD h7 h8
   rw [← Hfy.out.2.1,← Hfy.out.2.2] at HLD
   clear hEr h1 h2 h3 h4 h5 h6 hyr hrI hst h7 h8
   generalize frE r = Er at *
   generalize frF r = Fr at *
   by_cases hf:Fr < fy
   ·rw [if_pos hf] at HLD
    rw [decide_eq_true hf] at hlt
    replace hlt:=ltR hlt
    clear hf
    go_wp2_with (first | (go_at_call 224;refine (HFR.out _).mono ?_;rintro e w1 ⟨rfl,rfl⟩) | (go_at_call 193;refine (HLD.out _).mono ?_;rintro e w1 ⟨rfl,rfl⟩))
    go_round
    case rel=>exact ⟨r',rfl,HR'.out⟩
    case measure=>exact H6.out
   ·rw [if_neg hf] at HLD
    rw [decide_eq_false hf] at hlt
    replace hlt:=ltR hlt
    clear hf
    go_wp2_with (first | (go_at_call 224;refine (HFR.out _).mono ?_;rintro e w1 ⟨rfl,rfl⟩) | (go_at_call 193;refine (HLD.out _).mono ?_;rintro e w1 ⟨rfl,rfl⟩))
    go_round
    case rel=>exact ⟨r',rfl,HR'.out⟩
    case measure=>exact H6.out
  ·rw [decide_eq_false hyr] at hge
   replace hge:=geR hge
   have HE:Hid (r = modR X y):=hst.stop HyI.out Hy0.out HXI.out (Nat.lt_of_not_le hyr)
   have hr64:r < 18446744073709551616:=Nat.lt_trans hrI (by unfold INF;omega)
   have hrn:=fun W=>run_neg (P:=Tryz.prog) r W
   rw [neg_ng r hr64,ng_wd r hr64,(pfin r hrI).2.1,(pfin r hrI).2.2] at hrn
   replace hrn:∀ W,(Op.unary .neg (.float .f64 r)).run Tryz.prog W = .ok (.float .f64 (wd true r)) W:=hrn
   have HW:=Lib.hid (HE.out)
   clear hr64 hyr hrI hst
   generalize hwr:wd true r = wr at *
   have HWR:=Lib.hid hwr
   clear hwr
   go_wp2_with fail
   go_ret
   exact ⟨ret_f (by rw [HE.out,HX.out]),rfl⟩
set_option maxHeartbeats 2000000 in
theorem mod_neg (a b:Nat) (w:World) (ha:a < 18446744073709551616) (hb:b < 18446744073709551616) (hfa:fin a) (hfb:fin b) (he0:eqB b 0 = false) (hs:sgn a = true) (h0:0 < rung a):Calls Tryz.prog 208 #[fv a,fv b] w fun e w'=>e = .returned (fv (wd (sgn a) (modR (rung a) (rung b)))) ∧ w = w':=by
 have hnb:=nan_fin b hfb
 have HI:=Lib.hid (fun W=>IsInf_any a W ha)
 rw [infB_fin a hfa] at HI
 have HN:=Lib.hid (fun W=>IsNaN_any a W)
 rw [nan_fin a hfa] at HN
 have HM:=Lib.hid (fun W=>IsNaN_any b W)
 rw [hnb] at HM
 have HA:=Lib.hid (fun W=>Abs_any b W hb)
 have Hy0:=Lib.hid (eqz b hfb he0)
 have HyI:Hid (rung b < INF):=hfb.2
 have HXI:Hid (rung a < INF):=hfa.2
 replace he0:=eqR he0
 have hlt:=ltz a hfa
 have HFY:=Lib.hid (fun W=>Frexp_any (rung b) W Hy0.out HyI.out)
 have Hfy:Hid (frF (rung b) < INF ∧ frF (rung b) = frF (rung b) ∧ frE (rung b) = frE (rung b)):=⟨frF_inf _,rfl,rfl⟩
 have hEy:=(nf_ok (rung b) Hy0.out HyI.out).2
 obtain ⟨hEy1,hEy2⟩:=frE_bd (rung b) Hy0.out HyI.out
 clear hEy
 obtain ⟨fy,hfy⟩:∃ fy,frF (rung b) = fy:=⟨_,rfl⟩
 obtain ⟨ey,hey⟩:∃ ey,frE (rung b) = ey:=⟨_,rfl⟩
 rw [hfy,hey] at HFY
 rw [hey] at hEy1 hEy2
 replace Hfy:Hid (fy < INF ∧ fy = frF (rung b) ∧ ey = frE (rung b)):=⟨by rw [← hfy];exact Hfy.out.1,hfy.symm,hey.symm⟩
 clear hfy hey
 rw [hs]
 have hr0:ng a = rung a:=by rw [ng_wd a ha,hs];rfl
 rw [hs,decide_eq_true h0] at hlt
 replace hlt:=ltR hlt
 simp only [Bool.true_and] at hlt
 have hrn0:=fun W=>run_neg (P:=Tryz.prog) a W
 rw [neg_ng a ha,hr0] at hrn0
 have HS:Hid (ModAt (rung a) (rung b) (rung a)):=⟨HXI.out,rfl⟩
 clear hfa hfb hnb ha hb hs hr0 h0
 generalize rung b = y at *
 generalize rung a = X at *
 go_enter Tryz.func208,Tryz.ntmps208
 go_wp2_with (first | (go_at_call 222;refine (HI.out _).mono ?_;rintro e w1 ⟨rfl,rfl⟩) | (go_at_call 223;first | ((with_reducible refine (HN.out _).mono ?_);rintro e w1 ⟨rfl,rfl⟩) | ((with_reducible refine (HM.out _).mono ?_);rintro e w1 ⟨rfl,rfl⟩)) | (go_at_call 220;refine (HA.out _).mono ?_;rintro e w1 ⟨rfl,rfl⟩) | (go_at_call 224;refine (HFY.out _).mono ?_;rintro e w1 ⟨rfl,rfl⟩))
 go_loop [7,8,9] (fun v _ _=>∃ r,v = fv r ∧ ModAt X y r) (fun v _ _=>bitsOf v)
 case atStart=>exact ⟨X,rfl,HS.out⟩
 case round =>
  obtain ⟨r,rfl,hst⟩:=hrel
  have hrI:=hst.1
  have hge:=geB_pos r y hrI HyI.out
  by_cases hyr:y ≤ r
  ·rw [decide_eq_true hyr] at hge
   replace hge:=geR hge
   obtain ⟨t,r',h1,h2,h3,h4,h5,h6,h7,h8⟩:=mod_step r y hrI Hy0.out hyr
   have HR':Hid (ModAt X y r'):=⟨h2,by rw [h5];exact hst.2⟩
   have hsub:=fun W=>run_float_arith (P:=Tryz.prog) W .sub 45 .f64 r t r' (sub_exact r t r' hrI h1 h2 h4)
   have HFR:=Lib.hid (fun W=>Frexp_any r W (Nat.lt_of_lt_of_le Hy0.out hyr) hrI)
   have HLD:=Lib.hid (fun W=>Ldexp_any y (stepK r y) W Hy0.out HyI.out (Int.le_trans (by decide) h7) (Int.le_trans h8 (by decide)))
   rw [h3] at HLD
   have hlt:=ltB_pos (frF r) fy (frF_inf r) Hfy.out.1
   have hEr:=(nf_ok r (Nat.lt_of_lt_of_le Hy0.out hyr) hrI).2
   obtain ⟨hEr1,hEr2⟩:=frE_bd r (Nat.lt_of_lt_of_le Hy0.out hyr) hrI
   have H6:=Lib.hid h6
   unfold stepK at HLD h7 h8
   rw [← Hfy.out.2.1,← Hfy.out.2.2] at HLD
   clear hEr h1 h2 h3 h4 h5 h6 hyr hrI hst h7 h8
   generalize frE r = Er at *
   generalize frF r = Fr at *
   by_cases hf:Fr < fy
   ·rw [if_pos hf] at HLD
    rw [decide_eq_true hf] at hlt
    replace hlt:=ltR hlt
    clear hf
    go_wp2_with (first | (go_at_call 224;refine (HFR.out _).mono ?_;rintro e w1 ⟨rfl,rfl⟩) | (go_at_call 193;refine (HLD.out _).mono ?_;rintro e w1 ⟨rfl,rfl⟩))
    go_round
    case rel=>exact ⟨r',rfl,HR'.out⟩
    case measure=>exact H6.out
   ·rw [if_neg hf] at HLD
    rw [decide_eq_false hf] at hlt
    replace hlt:=ltR hlt
    clear hf
    go_wp2_with (first | (go_at_call 224;refine (HFR.out _).mono ?_;rintro e w1 ⟨rfl,rfl⟩) | (go_at_call 193;refine (HLD.out _).mono ?_;rintro e w1 ⟨rfl,rfl⟩))
    go_round
    case rel=>exact ⟨r',rfl,HR'.out⟩
    case measure=>exact H6.out
  ·rw [decide_eq_false hyr] at hge
   replace hge:=geR hge
   have HE:Hid (r = modR X y):=hst.stop HyI.out Hy0.out HXI.out (Nat.lt_of_not_le hyr)
   have hr64:r < 18446744073709551616:=Nat.lt_trans hrI (by unfold INF;omega)
   have hrn:=fun W=>run_neg (P:=Tryz.prog) r W
   rw [neg_ng r hr64,ng_wd r hr64,(pfin r hrI).2.1,(pfin r hrI).2.2] at hrn
   replace hrn:∀ W,(Op.unary .neg (.float .f64 r)).run Tryz.prog W = .ok (.float .f64 (wd true r)) W:=hrn
   have HW:=Lib.hid (HE.out)
   clear hr64 hyr hrI hst
   generalize hwr:wd true r = wr at *
   have HWR:=Lib.hid hwr
   clear hwr
   go_wp2_with fail
   go_ret
   exact ⟨ret_f (by rw [← HWR.out,HE.out]),rfl⟩
set_option maxHeartbeats 2000000 in
theorem mod_zero (a b:Nat) (w:World) (ha:a < 18446744073709551616) (hb:b < 18446744073709551616) (hfa:fin a) (hfb:fin b) (he0:eqB b 0 = false) (hs:sgn a = true) (h0:¬ 0 < rung a):Calls Tryz.prog 208 #[fv a,fv b] w fun e w'=>e = .returned (fv (wd (sgn a) (modR (rung a) (rung b)))) ∧ w = w':=by
 have hnb:=nan_fin b hfb
 have HI:=Lib.hid (fun W=>IsInf_any a W ha)
 rw [infB_fin a hfa] at HI
 have HN:=Lib.hid (fun W=>IsNaN_any a W)
 rw [nan_fin a hfa] at HN
 have HM:=Lib.hid (fun W=>IsNaN_any b W)
 rw [hnb] at HM
 have HA:=Lib.hid (fun W=>Abs_any b W hb)
 have Hy0:=Lib.hid (eqz b hfb he0)
 have HyI:Hid (rung b < INF):=hfb.2
 have HXI:Hid (rung a < INF):=hfa.2
 replace he0:=eqR he0
 have hlt:=ltz a hfa
 have HFY:=Lib.hid (fun W=>Frexp_any (rung b) W Hy0.out HyI.out)
 have Hfy:Hid (frF (rung b) < INF ∧ frF (rung b) = frF (rung b) ∧ frE (rung b) = frE (rung b)):=⟨frF_inf _,rfl,rfl⟩
 have hEy:=(nf_ok (rung b) Hy0.out HyI.out).2
 obtain ⟨hEy1,hEy2⟩:=frE_bd (rung b) Hy0.out HyI.out
 clear hEy
 obtain ⟨fy,hfy⟩:∃ fy,frF (rung b) = fy:=⟨_,rfl⟩
 obtain ⟨ey,hey⟩:∃ ey,frE (rung b) = ey:=⟨_,rfl⟩
 rw [hfy,hey] at HFY
 rw [hey] at hEy1 hEy2
 replace Hfy:Hid (fy < INF ∧ fy = frF (rung b) ∧ ey = frE (rung b)):=⟨by rw [← hfy];exact Hfy.out.1,hfy.symm,hey.symm⟩
 clear hfy hey
 rw [hs]
 have h1:rung a = 0:=by omega
 have h2:a = wd true 0:=by rw [← wd_self a ha,hs,h1]
 have hm:modR (rung a) (rung b) = 0:=by
  apply mg_inj
  rw [(modR_ok _ _ HXI.out HyI.out Hy0.out).2,h1,mg_zero,Nat.zero_mod]
 rw [hm,← h2]
 rw [hs,decide_eq_false h0] at hlt
 replace hlt:=ltR hlt
 simp only [Bool.and_false] at hlt
 have hge:geB a (rung b) = false:=by
  rw [geB_fin a (rung b) hfa (pfin _ HyI.out).1,pval _ HyI.out]
  apply decide_eq_false
  unfold val
  rw [hs,h1,mg_zero]
  have:=mg_pos _ Hy0.out
  simp;omega
 replace hge:=geR hge
 clear hfa hfb hnb ha hb hs h0 h1 h2 hm
 generalize rung b = y at *
 go_enter Tryz.func208,Tryz.ntmps208
 go_wp2_with (first | (go_at_call 222;refine (HI.out _).mono ?_;rintro e w1 ⟨rfl,rfl⟩) | (go_at_call 223;first | ((with_reducible refine (HN.out _).mono ?_);rintro e w1 ⟨rfl,rfl⟩) | ((with_reducible refine (HM.out _).mono ?_);rintro e w1 ⟨rfl,rfl⟩)) | (go_at_call 220;refine (HA.out _).mono ?_;rintro e w1 ⟨rfl,rfl⟩) | (go_at_call 224;refine (HFY.out _).mono ?_;rintro e w1 ⟨rfl,rfl⟩))
 go_loop [7] (fun v=>v = fv a) (fun v=>bitsOf v)
 case atStart=>rfl
 case round =>
  subst hrel
  go_wp2_with fail
  go_ret
  exact ⟨rfl,rfl⟩
theorem mod_main (a b:Nat) (w:World) (ha:a < 18446744073709551616) (hb:b < 18446744073709551616) (hfa:fin a) (hfb:fin b) (he0:eqB b 0 = false):Calls Tryz.prog 208 #[fv a,fv b] w fun e w'=>e = .returned (fv (wd (sgn a) (modR (rung a) (rung b)))) ∧ w = w':=by
 cases hs:sgn a
 ·have:=mod_pos a b w ha hb hfa hfb he0 hs
  rwa [hs] at this
 ·by_cases h0:0 < rung a
  ·have:=mod_neg a b w ha hb hfa hfb he0 hs h0
   rwa [hs] at this
  ·have:=mod_zero a b w ha hb hfa hfb he0 hs h0
   rwa [hs] at this
theorem Mod_any (a b:Nat) (w:World) (ha:a < 18446744073709551616) (hb:b < 18446744073709551616):Calls Tryz.prog 189 #[fv a,fv b] w fun e w'=>e = .returned (fv (md a b)) ∧ w = w':=by
 have HM:Hid (∀ W,Calls Tryz.prog 208 #[fv a,fv b] W fun e w'=>e = .returned (fv (md a b)) ∧ W = w'):=by
  intro W
  unfold md
  cases h:(eqB b 0 || infB a || nanB a || nanB b)
  ·simp only [Bool.or_eq_false_iff] at h
   obtain ⟨⟨⟨h1,h2⟩,h3⟩,h4⟩:=h
   rw [if_neg Bool.false_ne_true]
   have hfa:=inf_cases a ha h2 h3
   cases h5:infB b
   ·rw [if_neg Bool.false_ne_true]
    exact mod_main a b W ha hb hfa (inf_cases b hb h5 h4) h1
   ·rw [if_pos rfl]
    exact mod_inf a b W ha hb hfa h4 h5 h1
  ·rw [if_pos rfl]
   exact mod_nan a b W ha hb h
 generalize md a b = x at *
 clear ha hb
 go_enter Tryz.func189,Tryz.ntmps189
 go_wp2_with (go_at_call 208;refine (HM.out _).mono ?_;rintro e w1 ⟨rfl,rfl⟩)
 go_ret
 exact ⟨rfl,rfl⟩
theorem fMod_any (a b:Nat) (w:World) (ha:a < 18446744073709551616) (hb:b < 18446744073709551616):Calls Tryz.prog 166 #[fv a,fv b] w fun e w'=>e = .returned (fv (md a b)) ∧ w = w':=by
 have HM:=Lib.hid (fun W=>Mod_any a b W ha hb)
 generalize md a b = x at *
 clear ha hb
 go_enter Tryz.func166,Tryz.ntmps166
 go_wp2_with (go_at_call 189;refine (HM.out _).mono ?_;rintro e w1 ⟨rfl,rfl⟩)
 go_ret
 exact ⟨rfl,rfl⟩
end Go.Proofs.YtmfpmandkhiknaaGreatDoor.flt
namespace Go.Proofs.YtmfpmandkhiknaaGreatDoor.flt
open Go.RowKit Ieee
open num (ret_pair ofDecV ofDecX ofDecE OfDec_any ofDec_no ofDec_yes)
set_option maxRecDepth 100000
def cutL (c:UInt8):List UInt8 → List UInt8 × List UInt8 × Bool
 | []=>([],[],false)
 | x :: r=>if x = c then ([],r,true) else (x :: (cutL c r).1,(cutL c r).2.1,(cutL c r).2.2)
theorem cutL_cases (c:UInt8) (l:List UInt8):(c ∉ l ∧ cutL c l = (l,[],false)) ∨ (∃ a b,c ∉ a ∧ l = a ++ c :: b ∧ cutL c l = (a,b,true)):=by
 induction l with
 | nil=>exact .inl ⟨List.not_mem_nil,rfl⟩
 | cons x r ih =>
  by_cases h:x = c
  ·exact .inr ⟨[],r,List.not_mem_nil,by rw [h];rfl,by rw [cutL,if_pos h]⟩
  ·rcases ih with ⟨h1,h2⟩ | ⟨a,b,h1,h2,h3⟩
   ·left
    refine ⟨?_,by rw [cutL,if_neg h,h2]⟩
    rw [List.mem_cons,not_or]
    exact ⟨fun e=>h e.symm,h1⟩
   ·right
    refine ⟨x :: a,b,?_,by rw [h2];rfl,by rw [cutL,if_neg h,h3]⟩
    rw [List.mem_cons,not_or]
    exact ⟨fun e=>h e.symm,h1⟩
theorem cutL_nil (c:UInt8) (l:List UInt8):(cutL c l).2.2 = false → (cutL c l).2.1 = []:=by
 rcases cutL_cases c l with ⟨_,h⟩ | ⟨a,b,_,_,h⟩ <;> rw [h]
 ·intro _;rfl
 ·intro h;cases h
theorem cutL_len (c:UInt8) (l:List UInt8):(cutL c l).1.length ≤ l.length ∧ (cutL c l).2.1.length ≤ l.length:=by
 rcases cutL_cases c l with ⟨_,h⟩ | ⟨a,b,_,h2,h⟩ <;> rw [h]
 ·simp
 ·rw [h2];simp
  omega
theorem Cut_any (c:UInt8) (l:List UInt8) (w:World) (hs:l.length ≤ 1000000000000000000) :
  Calls Tryz.prog 191 #[.string ⟨l.toArray⟩,.string ⟨#[c]⟩] w fun e w'=>e = .returned (.tuple #[.string ⟨(cutL c l).1.toArray⟩,.string ⟨(cutL c l).2.1.toArray⟩,.bool (cutL c l).2.2]) ∧ Below w.heap.size w w':=by
 rcases cutL_cases c l with ⟨h1,h⟩ | ⟨a,b,h1,h2,h⟩ <;> rw [h]
 ·exact Cut_no c l w h1 (by omega)
 ·subst h2
  exact Cut_yes c a b w h1 (by omega)
def ldz (a:Nat) (k:Int):Nat:=if a = 0 then 0 else ldx a k
theorem Ldexp_all (a:Nat) (k:Int) (w:World) (h:a < INF) (hk1 : -100000 ≤ k) (hk2:k ≤ 100000):Calls Tryz.prog 193 #[fv a,.int .i64 k] w fun e w'=>e = .returned (fv (ldz a k)) ∧ w = w':=by
 unfold ldz
 by_cases h0:a = 0
 ·subst h0
  rw [if_pos rfl]
  exact Ldexp_zero k w
 ·rw [if_neg h0]
  exact Ldexp_any a k w (Nat.pos_of_ne_zero h0) h hk1 hk2
theorem ldz_lt (a:Nat) (k:Int) (h:a < INF):ldz a k ≤ INF:=by
 unfold ldz
 split
 ·unfold INF;omega
 ·exact ldx_le a k (Nat.pos_of_ne_zero (by assumption)) h
theorem fl_lt (n:Nat) (h:n ≤ 9007199254740992):fl n < INF:=by
 rcases Nat.eq_zero_or_pos n with rfl | h0
 ·rw [← zero_fl];unfold INF;omega
 ·exact (fl_pos n h0 h).1
def powR (f b:List UInt8) (pt:Bool):Option Nat:=
 if pt then match ofDecV f,ofDecV (Lib.trimPrefix b [45]) with
  | some m,some k=>if m ≤ 9007199254740992 ∧ k ≤ 2000 then some (ldz (fl m) (if Lib.hasPrefix b [45] then -(k:Int) else (k:Int))) else none
  | _,_=>none
 else none
def powOk (f b:List UInt8) (pt:Bool):Bool:=(powR f b pt).isSome
def powV (f b:List UInt8) (pt:Bool):Nat:=(powR f b pt).getD 0
theorem trim_len (b p:List UInt8):(Lib.trimPrefix b p).length ≤ b.length:=by
 unfold Lib.trimPrefix
 split
 ·simp
 ·exact Nat.le_refl _
set_option maxHeartbeats 1000000 in
theorem powered_any (S:ByteArray) (f b:List UInt8) (pt:Bool) (w:World) (hf:f.length ≤ maxLen) (hb:b.length ≤ maxLen)
  (HC:Hid (∀ W,Calls Tryz.prog 191 #[.string S,.string ⟨#[112]⟩] W fun e w'=>e = .returned (.tuple #[.string ⟨f.toArray⟩,.string ⟨b.toArray⟩,.bool pt]) ∧ Below W.heap.size W w')) :
  Calls Tryz.prog 172 #[.string S] w fun e w'=>e = .returned (.tuple #[fv (powV f b pt),.bool (powOk f b pt)]) ∧ Below w.heap.size w w':=by
 have ht:=trim_len b [45]
 have HF:=Lib.hid (fun W=>OfDec_any ⟨f.toArray⟩ W (by rw [str_size];exact hf))
 have HT:=Lib.hid (fun W=>OfDec_any ⟨(Lib.trimPrefix b [45]).toArray⟩ W (by rw [str_size];omega))
 have HP:=Lib.hid (fun W=>Tryz.strings_HasPrefix ⟨b.toArray⟩ ⟨#[45]⟩ W)
 have HQ:=Lib.hid (fun W=>Tryz.strings_TrimPrefix ⟨b.toArray⟩ ⟨#[45]⟩ W)
 replace HF:Hid (∀ W,Calls Tryz.prog 171 #[.string ⟨f.toArray⟩] W fun e w'=>e = .returned (.tuple #[.int .u64 (ofDecX f),.int .i64 (ofDecE f)]) ∧ W = w'):=HF
 replace HT:Hid (∀ W,Calls Tryz.prog 171 #[.string ⟨(Lib.trimPrefix b [45]).toArray⟩] W fun e w'=>e = .returned (.tuple #[.int .u64 (ofDecX (Lib.trimPrefix b [45])),.int .i64 (ofDecE (Lib.trimPrefix b [45]))]) ∧ W = w'):=HT
 replace HP:Hid (∀ W,Calls Tryz.prog 129 #[.string ⟨b.toArray⟩,.string ⟨#[45]⟩] W fun e w'=>e = .returned (.bool (Lib.hasPrefix b [45])) ∧ w' = W):=HP
 replace HQ:Hid (∀ W,Calls Tryz.prog 168 #[.string ⟨b.toArray⟩,.string ⟨#[45]⟩] W fun e w'=>e = .returned (.string ⟨(Lib.trimPrefix b [45]).toArray⟩) ∧ w' = W):=HQ
 unfold powV powOk powR
 generalize Lib.trimPrefix b [45] = t at *
 generalize Lib.hasPrefix b [45] = hp at *
 clear hf hb ht
 generalize (⟨t.toArray⟩:ByteArray) = T at *
 generalize (⟨f.toArray⟩:ByteArray) = F at *
 generalize (⟨b.toArray⟩:ByteArray) = B at *
 have HL:Hid True:=trivial
 cases pt
 ·clear HL
  go_enter Tryz.func172,Tryz.ntmps172
  go_wp2_with (first | (go_at_call 191;refine (HC.out _).mono ?_;rintro e w1 ⟨rfl,hb1⟩) | (go_at_call 129;refine (HP.out _).mono ?_;rintro e w2 ⟨rfl,rfl⟩) | (go_at_call 168;refine (HQ.out _).mono ?_;rintro e w2 ⟨rfl,rfl⟩) | (go_at_call 171;first | ((with_reducible refine (HF.out _).mono ?_);rintro e w2 ⟨rfl,rfl⟩) | ((with_reducible refine (HT.out _).mono ?_);rintro e w2 ⟨rfl,rfl⟩)))
  go_ret2
  exact ⟨rfl,hb1⟩
 ·clear HL
  cases hm:ofDecV f with
  | none =>
   rw [(ofDec_no hm).1,(ofDec_no hm).2] at HF
   clear hm
   go_enter Tryz.func172,Tryz.ntmps172
   go_wp2_with (first | (go_at_call 191;refine (HC.out _).mono ?_;rintro e w1 ⟨rfl,hb1⟩) | (go_at_call 129;refine (HP.out _).mono ?_;rintro e w2 ⟨rfl,rfl⟩) | (go_at_call 168;refine (HQ.out _).mono ?_;rintro e w2 ⟨rfl,rfl⟩) | (go_at_call 171;first | ((with_reducible refine (HF.out _).mono ?_);rintro e w2 ⟨rfl,rfl⟩) | ((with_reducible refine (HT.out _).mono ?_);rintro e w2 ⟨rfl,rfl⟩)))
   go_ret2
   exact ⟨rfl,hb1⟩
  | some m =>
   rw [(ofDec_yes hm).1,(ofDec_yes hm).2] at HF
   cases hk:ofDecV t with
   | none =>
    rw [(ofDec_no hk).1,(ofDec_no hk).2] at HT
    clear hm hk
    go_enter Tryz.func172,Tryz.ntmps172
    go_wp2_with (first | (go_at_call 191;refine (HC.out _).mono ?_;rintro e w1 ⟨rfl,hb1⟩) | (go_at_call 129;refine (HP.out _).mono ?_;rintro e w2 ⟨rfl,rfl⟩) | (go_at_call 168;refine (HQ.out _).mono ?_;rintro e w2 ⟨rfl,rfl⟩) | (go_at_call 171;first | ((with_reducible refine (HF.out _).mono ?_);rintro e w2 ⟨rfl,rfl⟩) | ((with_reducible refine (HT.out _).mono ?_);rintro e w2 ⟨rfl,rfl⟩)))
    go_ret2
    exact ⟨rfl,hb1⟩
   | some k =>
    rw [(ofDec_yes hk).1,(ofDec_yes hk).2] at HT
    clear hm hk
    by_cases h1:m ≤ 9007199254740992
    ·by_cases h2:k ≤ 2000
     ·have hd1:decide (9007199254740992 < (m:Int)) = false:=decide_eq_false (by omega)
      have hd2:decide (2000 < (k:Int)) = false:=decide_eq_false (by omega)
      have hfm:=floatOfInt_nat m
      have hlt:=fl_lt m h1
      simp only [h1,h2,and_self,if_true,Option.isSome_some,Option.getD_some]
      cases hp
      ·have HL:=Lib.hid (fun W=>Ldexp_all (fl m) (k:Int) W hlt (by omega) (by omega))
       simp only [Bool.false_eq_true,if_false]
       generalize fl m = x at *
       generalize ldz x (k:Int) = y at *
       clear hlt
       go_enter Tryz.func172,Tryz.ntmps172
       go_wp2_with (first | (go_at_call 191;refine (HC.out _).mono ?_;rintro e w1 ⟨rfl,hb1⟩) | (go_at_call 129;refine (HP.out _).mono ?_;rintro e w2 ⟨rfl,rfl⟩) | (go_at_call 168;refine (HQ.out _).mono ?_;rintro e w2 ⟨rfl,rfl⟩) | (go_at_call 171;first | ((with_reducible refine (HF.out _).mono ?_);rintro e w2 ⟨rfl,rfl⟩) | ((with_reducible refine (HT.out _).mono ?_);rintro e w2 ⟨rfl,rfl⟩)) | (go_at_call 193;refine (HL.out _).mono ?_;rintro e w2 ⟨rfl,rfl⟩))
       go_ret2
       exact ⟨rfl,hb1⟩
      ·have HL:=Lib.hid (fun W=>Ldexp_all (fl m) (-(k:Int)) W hlt (by omega) (by omega))
       simp only [if_true]
       generalize fl m = x at *
       generalize ldz x (-(k:Int)) = y at *
       clear hlt
       go_enter Tryz.func172,Tryz.ntmps172
       go_wp2_with (first | (go_at_call 191;refine (HC.out _).mono ?_;rintro e w1 ⟨rfl,hb1⟩) | (go_at_call 129;refine (HP.out _).mono ?_;rintro e w2 ⟨rfl,rfl⟩) | (go_at_call 168;refine (HQ.out _).mono ?_;rintro e w2 ⟨rfl,rfl⟩) | (go_at_call 171;first | ((with_reducible refine (HF.out _).mono ?_);rintro e w2 ⟨rfl,rfl⟩) | ((with_reducible refine (HT.out _).mono ?_);rintro e w2 ⟨rfl,rfl⟩)) | (go_at_call 193;refine (HL.out _).mono ?_;rintro e w2 ⟨rfl,rfl⟩))
       go_ret2
       exact ⟨rfl,hb1⟩
     ·have hd1:decide (9007199254740992 < (m:Int)) = false:=decide_eq_false (by omega)
      have hd2:decide (2000 < (k:Int)) = true:=decide_eq_true (by omega)
      simp only [h2,and_false,if_false,Option.isSome_none,Option.getD_none]
      clear h1 h2
      go_enter Tryz.func172,Tryz.ntmps172
      go_wp2_with (first | (go_at_call 191;refine (HC.out _).mono ?_;rintro e w1 ⟨rfl,hb1⟩) | (go_at_call 129;refine (HP.out _).mono ?_;rintro e w2 ⟨rfl,rfl⟩) | (go_at_call 168;refine (HQ.out _).mono ?_;rintro e w2 ⟨rfl,rfl⟩) | (go_at_call 171;first | ((with_reducible refine (HF.out _).mono ?_);rintro e w2 ⟨rfl,rfl⟩) | ((with_reducible refine (HT.out _).mono ?_);rintro e w2 ⟨rfl,rfl⟩)))
      go_ret2
      exact ⟨rfl,hb1⟩
    ·have hd1:decide (9007199254740992 < (m:Int)) = true:=decide_eq_true (by omega)
     simp only [h1,false_and,if_false,Option.isSome_none,Option.getD_none]
     clear h1
     go_enter Tryz.func172,Tryz.ntmps172
     go_wp2_with (first | (go_at_call 191;refine (HC.out _).mono ?_;rintro e w1 ⟨rfl,hb1⟩) | (go_at_call 129;refine (HP.out _).mono ?_;rintro e w2 ⟨rfl,rfl⟩) | (go_at_call 168;refine (HQ.out _).mono ?_;rintro e w2 ⟨rfl,rfl⟩) | (go_at_call 171;first | ((with_reducible refine (HF.out _).mono ?_);rintro e w2 ⟨rfl,rfl⟩) | ((with_reducible refine (HT.out _).mono ?_);rintro e w2 ⟨rfl,rfl⟩)))
     go_ret2
     exact ⟨rfl,hb1⟩
/-! OfText -/
def decOkL (l:List UInt8):Bool:=decOk (cutL 46 l).1 (cutL 46 l).2.1 (cutL 46 l).2.2
def decVL (l:List UInt8):Nat:=decV (cutL 46 l).1 (cutL 46 l).2.1 (cutL 46 l).2.2
def powOkL (l:List UInt8):Bool:=powOk (cutL 112 l).1 (cutL 112 l).2.1 (cutL 112 l).2.2
def powVL (l:List UInt8):Nat:=powV (cutL 112 l).1 (cutL 112 l).2.1 (cutL 112 l).2.2
theorem decimal_all (l:List UInt8) (w:World) (hs:l.length ≤ 1000000000000000000):Calls Tryz.prog 169 #[.string ⟨l.toArray⟩] w fun e w'=>e = .returned (.tuple #[fv (decVL l),.bool (decOkL l)]) ∧ Below w.heap.size w w':=
 decimal_any _ _ _ _ w (Nat.le_trans (cutL_len 46 l).1 hs) (Nat.le_trans (cutL_len 46 l).2 hs) (fun W=>Cut_any 46 l W hs) (cutL_nil 46 l)
theorem powered_all (l:List UInt8) (w:World) (hs:l.length ≤ 1000000000000000000):Calls Tryz.prog 172 #[.string ⟨l.toArray⟩] w fun e w'=>e = .returned (.tuple #[fv (powVL l),.bool (powOkL l)]) ∧ Below w.heap.size w w':=
 powered_any _ _ _ _ w (Nat.le_trans (cutL_len 112 l).1 (by unfold maxLen;omega)) (Nat.le_trans (cutL_len 112 l).2 (by unfold maxLen;omega)) (fun W=>Cut_any 112 l W hs)
theorem decVL_lt (l:List UInt8):decVL l < 18446744073709551616:=by
 unfold decVL decV decQ
 split
 ·cases h:fop .quo _ _ with
  | none=>simp
  | some r=>exact fop_lt h
 ·omega
theorem powVL_lt (l:List UInt8):powVL l < 18446744073709551616:=by
 unfold powVL powV powR
 split
 ·split
  ·split
   ·rename_i h
    exact Nat.lt_of_le_of_lt (ldz_lt _ _ (fl_lt _ h.1)) (by unfold INF;omega)
   ·simp
  ·simp
 ·simp
def bodyL (l:List UInt8):List UInt8:=Lib.trimPrefix l [45]
def nanL:List UInt8 := [110,97,110]
def infL:List UInt8 := [105,110,102]
def bodyV (t:List UInt8):Option (Nat × Bool):=
 if decOkL t then some (decVL t,true) else if t = nanL then some (NANB,false) else if t = infL then some (9218868437227405312,false)
 else match ofDecV t with
  | some x=>if x ≤ 9007199254740992 then some (fl x,false) else if powOkL t then some (powVL t,true) else none
  | none=>if powOkL t then some (powVL t,true) else none
def signV (l:List UInt8) (a:Nat):Nat:=if (bodyL l).length < l.length then ng a else a
def ofT (l:List UInt8):Option Nat:=match bodyV (bodyL l) with
 | none=>none
 | some (a,is)=>if (!is || l.contains 112) && !((txt (signV l a)).data.toList == l) then none else some (signV l a)
/-! the paths -/
set_option maxHeartbeats 1000000 in
theorem of_dec (S T X:ByteArray) (a:Nat) (ha:a < 18446744073709551616) (nB cB eB:Bool)  (w:World) (HB:Hid (∀ W,Calls Tryz.prog 168 #[.string S,.string ⟨#[45]⟩] W fun e w'=>e = .returned (.string T) ∧ W = w')) (HD:Hid (∀ W,Calls Tryz.prog 169 #[.string T] W fun e w'=>e = .returned (.tuple #[fv a,.bool true]) ∧ Below W.heap.size W w')) (HCt:Hid (∀ W,Calls Tryz.prog 173 #[.string S,.string ⟨#[112]⟩] W fun e w'=>e = .returned (.bool cB) ∧ W = w')) (HTx:Hid (∀ W,Calls Tryz.prog 120 #[fv (if nB then ng a else a)] W fun e w'=>e = .returned (.string X) ∧ Below W.heap.size W w'))
  (hlt:decide (T.size < S.size) = nB) (hxs:(X.toList == S.toList) = eB) :
  Calls Tryz.prog 135 #[.string S] w fun e w'=>e = .returned (if (cB && !eB) then .tuple #[fv 0,.int .i64 200] else .tuple #[fv (if nB then ng a else a),.int .i64 0]) ∧ Below w.heap.size w w':=by
 have hrn:=fun W=>run_neg (P:=Tryz.prog) a W
 rw [neg_ng a ha] at hrn
 clear ha
 generalize ng a = b at *
 cases nB <;> cases cB <;> cases eB <;> simp only [Bool.false_eq_true,if_false,if_true,Bool.not_true,Bool.not_false,Bool.and_true,Bool.and_false,Bool.true_and,Bool.false_and] at HTx ⊢
 all_goals
  go_enter Tryz.func135,Tryz.ntmps135
  go_wp2_with (first | (go_at_call 168;refine (HB.out _).mono ?_;rintro e w1 ⟨rfl,rfl⟩) | (go_at_call 169;refine (HD.out _).mono ?_;rintro e w1 ⟨rfl,hb2⟩) | (go_at_call 173;refine (HCt.out _).mono ?_;rintro e w1 ⟨rfl,rfl⟩) | (go_at_call 120;refine (HTx.out _).mono ?_;rintro e w1 ⟨rfl,hb4⟩))
  go_ret2
  refine ⟨rfl,?_⟩
  first
   | exact hb2
   | exact hb2.trans (hb4.mono hb2.size)
set_option maxHeartbeats 1000000 in
theorem of_nan (S T X:ByteArray) (a:Nat) (ha:a < 18446744073709551616) (nB eB:Bool) (d:Nat) (w:World) (HB:Hid (∀ W,Calls Tryz.prog 168 #[.string S,.string ⟨#[45]⟩] W fun e w'=>e = .returned (.string T) ∧ W = w')) (HD:Hid (∀ W,Calls Tryz.prog 169 #[.string T] W fun e w'=>e = .returned (.tuple #[fv d,.bool false]) ∧ Below W.heap.size W w')) (HTx:Hid (∀ W,Calls Tryz.prog 120 #[fv (if nB then ng a else a)] W fun e w'=>e = .returned (.string X) ∧ Below W.heap.size W w')) (hn:(T.toList == [110,97,110]) = true) (hA:a = NANB)
  (hlt:decide (T.size < S.size) = nB) (hxs:(X.toList == S.toList) = eB) :
  Calls Tryz.prog 135 #[.string S] w fun e w'=>e = .returned (if !eB then .tuple #[fv 0,.int .i64 200] else .tuple #[fv (if nB then ng a else a),.int .i64 0]) ∧ Below w.heap.size w w':=by
 have hrn:=fun W=>run_neg (P:=Tryz.prog) a W
 rw [neg_ng a ha] at hrn
 clear ha
 subst hA
 unfold NANB at *
 generalize ng 9221120237041090561 = b at *
 cases nB <;> cases eB <;> simp only [Bool.false_eq_true,if_false,if_true,Bool.not_true,Bool.not_false,Bool.and_true,Bool.and_false,Bool.true_and,Bool.false_and] at HTx ⊢
 all_goals
  go_enter Tryz.func135,Tryz.ntmps135
  go_wp2_with (first | (go_at_call 168;refine (HB.out _).mono ?_;rintro e w1 ⟨rfl,rfl⟩) | (go_at_call 169;refine (HD.out _).mono ?_;rintro e w1 ⟨rfl,hb2⟩) | (go_at_call 120;refine (HTx.out _).mono ?_;rintro e w1 ⟨rfl,hb4⟩) | (go_at_call 44;refine (NaN_any _).mono ?_;rintro e w1 ⟨rfl,rfl⟩))
  go_ret2
  refine ⟨rfl,?_⟩
  first
   | exact hb2
   | exact hb2.trans (hb4.mono hb2.size)
set_option maxHeartbeats 1000000 in
theorem of_inf (S T X:ByteArray) (a:Nat) (ha:a < 18446744073709551616) (nB eB:Bool) (d:Nat) (w:World) (HB:Hid (∀ W,Calls Tryz.prog 168 #[.string S,.string ⟨#[45]⟩] W fun e w'=>e = .returned (.string T) ∧ W = w')) (HD:Hid (∀ W,Calls Tryz.prog 169 #[.string T] W fun e w'=>e = .returned (.tuple #[fv d,.bool false]) ∧ Below W.heap.size W w')) (HTx:Hid (∀ W,Calls Tryz.prog 120 #[fv (if nB then ng a else a)] W fun e w'=>e = .returned (.string X) ∧ Below W.heap.size W w')) (hn:(T.toList == [110,97,110]) = false) (hi:(T.toList == [105,110,102]) = true) (hA:a = 9218868437227405312)
  (hlt:decide (T.size < S.size) = nB) (hxs:(X.toList == S.toList) = eB) :
  Calls Tryz.prog 135 #[.string S] w fun e w'=>e = .returned (if !eB then .tuple #[fv 0,.int .i64 200] else .tuple #[fv (if nB then ng a else a),.int .i64 0]) ∧ Below w.heap.size w w':=by
 have hrn:=fun W=>run_neg (P:=Tryz.prog) a W
 rw [neg_ng a ha] at hrn
 clear ha
 subst hA
 generalize ng 9218868437227405312 = b at *
 cases nB <;> cases eB <;> simp only [Bool.false_eq_true,if_false,if_true,Bool.not_true,Bool.not_false,Bool.and_true,Bool.and_false,Bool.true_and,Bool.false_and] at HTx ⊢
 all_goals
  go_enter Tryz.func135,Tryz.ntmps135
  go_wp2_with (first | (go_at_call 168;refine (HB.out _).mono ?_;rintro e w1 ⟨rfl,rfl⟩) | (go_at_call 169;refine (HD.out _).mono ?_;rintro e w1 ⟨rfl,hb2⟩) | (go_at_call 120;refine (HTx.out _).mono ?_;rintro e w1 ⟨rfl,hb4⟩) | (go_at_call 170;refine (Inf_pos _).mono ?_;rintro e w1 ⟨rfl,rfl⟩))
  go_ret2
  refine ⟨rfl,?_⟩
  first
   | exact hb2
   | exact hb2.trans (hb4.mono hb2.size)
set_option maxHeartbeats 1000000 in
theorem of_num (S T X:ByteArray) (a:Nat) (ha:a < 18446744073709551616) (nB eB:Bool) (d x:Nat) (xe:Int) (w:World) (HB:Hid (∀ W,Calls Tryz.prog 168 #[.string S,.string ⟨#[45]⟩] W fun e w'=>e = .returned (.string T) ∧ W = w')) (HD:Hid (∀ W,Calls Tryz.prog 169 #[.string T] W fun e w'=>e = .returned (.tuple #[fv d,.bool false]) ∧ Below W.heap.size W w')) (HTx:Hid (∀ W,Calls Tryz.prog 120 #[fv (if nB then ng a else a)] W fun e w'=>e = .returned (.string X) ∧ Below W.heap.size W w')) (HO:Hid (∀ W,Calls Tryz.prog 171 #[.string T] W fun e w'=>e = .returned (.tuple #[.int .u64 (x:Nat),.int .i64 xe]) ∧ W = w')) (hn:(T.toList == [110,97,110]) = false) (hi:(T.toList == [105,110,102]) = false) (hx:x ≤ 9007199254740992) (hxe:xe = 0) (hA:a = fl x)
  (hlt:decide (T.size < S.size) = nB) (hxs:(X.toList == S.toList) = eB) :
  Calls Tryz.prog 135 #[.string S] w fun e w'=>e = .returned (if !eB then .tuple #[fv 0,.int .i64 200] else .tuple #[fv (if nB then ng a else a),.int .i64 0]) ∧ Below w.heap.size w w':=by
 have hrn:=fun W=>run_neg (P:=Tryz.prog) a W
 rw [neg_ng a ha] at hrn
 clear ha
 subst hxe
 subst hA
 have hfm:=floatOfInt_nat x
 have hdx:decide ((x:Int) ≤ 9007199254740992) = true:=decide_eq_true (by omega)
 generalize fl x = a at *
 generalize ng a = b at *
 cases nB <;> cases eB <;> simp only [Bool.false_eq_true,if_false,if_true,Bool.not_true,Bool.not_false,Bool.and_true,Bool.and_false,Bool.true_and,Bool.false_and] at HTx ⊢
 all_goals
  go_enter Tryz.func135,Tryz.ntmps135
  go_wp2_with (first | (go_at_call 168;refine (HB.out _).mono ?_;rintro e w1 ⟨rfl,rfl⟩) | (go_at_call 169;refine (HD.out _).mono ?_;rintro e w1 ⟨rfl,hb2⟩) | (go_at_call 120;refine (HTx.out _).mono ?_;rintro e w1 ⟨rfl,hb4⟩) | (go_at_call 171;refine (HO.out _).mono ?_;rintro e w1 ⟨rfl,rfl⟩))
  go_ret2
  refine ⟨rfl,?_⟩
  first
   | exact hb2
   | exact hb2.trans (hb4.mono hb2.size)
set_option maxHeartbeats 1000000 in
theorem of_pow (S T X:ByteArray) (a:Nat) (ha:a < 18446744073709551616) (nB cB eB:Bool) (d x:Nat) (xe:Int) (w:World) (HB:Hid (∀ W,Calls Tryz.prog 168 #[.string S,.string ⟨#[45]⟩] W fun e w'=>e = .returned (.string T) ∧ W = w')) (HD:Hid (∀ W,Calls Tryz.prog 169 #[.string T] W fun e w'=>e = .returned (.tuple #[fv d,.bool false]) ∧ Below W.heap.size W w')) (HCt:Hid (∀ W,Calls Tryz.prog 173 #[.string S,.string ⟨#[112]⟩] W fun e w'=>e = .returned (.bool cB) ∧ W = w')) (HTx:Hid (∀ W,Calls Tryz.prog 120 #[fv (if nB then ng a else a)] W fun e w'=>e = .returned (.string X) ∧ Below W.heap.size W w')) (HO:Hid (∀ W,Calls Tryz.prog 171 #[.string T] W fun e w'=>e = .returned (.tuple #[.int .u64 (x:Nat),.int .i64 xe]) ∧ W = w')) (HP:Hid (∀ W,Calls Tryz.prog 172 #[.string T] W fun e w'=>e = .returned (.tuple #[fv a,.bool true]) ∧ Below W.heap.size W w')) (hn:(T.toList == [110,97,110]) = false) (hi:(T.toList == [105,110,102]) = false) (hx:((xe == 0) = false) ∨ (xe = 0 ∧ ¬ x ≤ 9007199254740992))
  (hlt:decide (T.size < S.size) = nB) (hxs:(X.toList == S.toList) = eB) :
  Calls Tryz.prog 135 #[.string S] w fun e w'=>e = .returned (if (cB && !eB) then .tuple #[fv 0,.int .i64 200] else .tuple #[fv (if nB then ng a else a),.int .i64 0]) ∧ Below w.heap.size w w':=by
 have hrn:=fun W=>run_neg (P:=Tryz.prog) a W
 rw [neg_ng a ha] at hrn
 clear ha
 have hx2:(xe == 0) = false ∨ ((xe == 0) = true ∧ decide ((x:Int) ≤ 9007199254740992) = false):=by
  rcases hx with h | ⟨h1,h2⟩
  ·exact .inl h
  ·exact .inr ⟨by rw [h1];rfl,decide_eq_false (by omega)⟩
 clear hx
 rcases hx2 with hx2 | ⟨hx2,hx3⟩
 all_goals
  generalize ng a = b at *
  cases nB <;> cases cB <;> cases eB <;> simp only [Bool.false_eq_true,if_false,if_true,Bool.not_true,Bool.not_false,Bool.and_true,Bool.and_false,Bool.true_and,Bool.false_and] at HTx ⊢
  all_goals
   go_enter Tryz.func135,Tryz.ntmps135
   go_wp2_with (first | (go_at_call 168;refine (HB.out _).mono ?_;rintro e w1 ⟨rfl,rfl⟩) | (go_at_call 169;refine (HD.out _).mono ?_;rintro e w1 ⟨rfl,hb2⟩) | (go_at_call 120;refine (HTx.out _).mono ?_;rintro e w1 ⟨rfl,hb4⟩) | (go_at_call 171;refine (HO.out _).mono ?_;rintro e w1 ⟨rfl,rfl⟩) | (go_at_call 173;refine (HCt.out _).mono ?_;rintro e w1 ⟨rfl,rfl⟩) | (go_at_call 172;refine (HP.out _).mono ?_;rintro e w1 ⟨rfl,hb3⟩))
   go_ret2
   refine ⟨rfl,?_⟩
   first
     | exact hb2.trans (hb3.mono hb2.size)
     | exact (hb2.trans (hb3.mono hb2.size)).trans (hb4.mono (Nat.le_trans hb2.size hb3.size))
theorem of_fail (S T:ByteArray) (a d x:Nat) (xe:Int) (w:World) (HB:Hid (∀ W,Calls Tryz.prog 168 #[.string S,.string ⟨#[45]⟩] W fun e w'=>e = .returned (.string T) ∧ W = w')) (HD:Hid (∀ W,Calls Tryz.prog 169 #[.string T] W fun e w'=>e = .returned (.tuple #[fv d,.bool false]) ∧ Below W.heap.size W w')) (HO:Hid (∀ W,Calls Tryz.prog 171 #[.string T] W fun e w'=>e = .returned (.tuple #[.int .u64 (x:Nat),.int .i64 xe]) ∧ W = w')) (HP:Hid (∀ W,Calls Tryz.prog 172 #[.string T] W fun e w'=>e = .returned (.tuple #[fv a,.bool false]) ∧ Below W.heap.size W w')) (hn:(T.toList == [110,97,110]) = false) (hi:(T.toList == [105,110,102]) = false) (hx:((xe == 0) = false) ∨ (xe = 0 ∧ ¬ x ≤ 9007199254740992)) :
  Calls Tryz.prog 135 #[.string S] w fun e w'=>e = .returned (.tuple #[fv 0,.int .i64 200]) ∧ Below w.heap.size w w':=by
 have hx2:(xe == 0) = false ∨ ((xe == 0) = true ∧ decide ((x:Int) ≤ 9007199254740992) = false):=by
  rcases hx with h | ⟨h1,h2⟩
  ·exact .inl h
  ·exact .inr ⟨by rw [h1];rfl,decide_eq_false (by omega)⟩
 clear hx
 rcases hx2 with hx2 | ⟨hx2,hx3⟩
 all_goals
  go_enter Tryz.func135,Tryz.ntmps135
  go_wp2_with (first | (go_at_call 168;refine (HB.out _).mono ?_;rintro e w1 ⟨rfl,rfl⟩) | (go_at_call 169;refine (HD.out _).mono ?_;rintro e w1 ⟨rfl,hb2⟩) | (go_at_call 171;refine (HO.out _).mono ?_;rintro e w1 ⟨rfl,rfl⟩) | (go_at_call 172;refine (HP.out _).mono ?_;rintro e w1 ⟨rfl,hb3⟩))
  go_ret2
  exact ⟨rfl,hb2.trans (hb3.mono hb2.size)⟩
theorem index_contains (l:List UInt8):decide (0 ≤ Lib.indexByte l 112) = l.contains 112:=by
 by_cases h:(112:UInt8) ∈ l
 ·rcases cutL_cases 112 l with ⟨h1,_⟩ | ⟨a,b,h1,h2,_⟩
  ·exact absurd h h1
  ·rw [h2,index_yes h1,decide_eq_true (by omega)]
   symm
   rw [List.contains_iff_mem]
   simp
 ·rw [index_no h]
  symm
  have:¬ l.contains 112 = true:=by rw [List.contains_iff_mem];exact h
  simpa using this
def ofE (l:List UInt8):Value:=match ofT l with
 | some a=>.tuple #[fv a,.int .i64 0]
 | none=>.tuple #[fv 0,.int .i64 200]
theorem if_signV (l:List UInt8) (a:Nat):(if decide ((bodyL l).length < l.length) then ng a else a) = signV l a:=by
 unfold signV
 by_cases h:(bodyL l).length < l.length
 ·rw [if_pos h,decide_eq_true h,if_pos rfl]
 ·rw [if_neg h,decide_eq_false h,if_neg Bool.false_ne_true]
theorem nanb_lt:NANB < 18446744073709551616:=by unfold NANB;decide
theorem infb_lt:(9218868437227405312:Nat) < 18446744073709551616:=by decide
theorem fl64 (x:Nat) (h:x ≤ 9007199254740992):fl x < 18446744073709551616:=Nat.lt_trans (fl_lt x h) infb_lt
theorem some_lt {a b:Nat} {is js:Bool} (h:some (b,js) = some (a,is)) (hb:b < 18446744073709551616):a < 18446744073709551616:=by
 have:=Option.some.inj h
 rw [← (Prod.mk.inj this).1]
 exact hb
theorem bodyV_lt {t:List UInt8} {a:Nat} {is:Bool} (h:bodyV t = some (a,is)):a < 18446744073709551616:=by
 unfold bodyV at h
 split at h
 ·exact some_lt h (decVL_lt t)
 ·split at h
  ·exact some_lt h nanb_lt
  ·split at h
   ·exact some_lt h infb_lt
   ·split at h
    ·split at h
     ·rename_i hx;exact some_lt h (fl64 _ hx)
     ·split at h
      ·exact some_lt h (powVL_lt t)
      ·cases h
    ·split at h
     ·exact some_lt h (powVL_lt t)
     ·cases h
theorem OfText_any (l:List UInt8) (w:World) (hs:l.length ≤ 1000000000000000000) :
  Calls Tryz.prog 135 #[.string ⟨l.toArray⟩] w fun e w'=>e = .returned (ofE l) ∧ Below w.heap.size w w':=by
 have hbl:(bodyL l).length ≤ l.length:=trim_len l [45]
 have HB:Hid (∀ W,Calls Tryz.prog 168 #[.string ⟨l.toArray⟩,.string ⟨#[45]⟩] W fun e w'=>e = .returned (.string ⟨(bodyL l).toArray⟩) ∧ W = w'):=
  fun W=>(Tryz.strings_TrimPrefix ⟨l.toArray⟩ ⟨#[45]⟩ W).mono fun e w' ⟨h1,h2⟩=>⟨h1,h2.symm⟩
 have HCt:Hid (∀ W,Calls Tryz.prog 173 #[.string ⟨l.toArray⟩,.string ⟨#[112]⟩] W fun e w'=>e = .returned (.bool (l.contains 112)) ∧ W = w'):=
  fun W=>(Tryz.strings_Contains_one ⟨l.toArray⟩ 112 W).mono fun e w' ⟨h1,h2⟩=>⟨h1.trans (by rw [← index_contains l]),h2.symm⟩
 have HD:=Lib.hid (fun W=>decimal_all (bodyL l) W (Nat.le_trans hbl hs))
 have HO:Hid (∀ W,Calls Tryz.prog 171 #[.string ⟨(bodyL l).toArray⟩] W fun e w'=>e = .returned (.tuple #[.int .u64 (ofDecX (bodyL l)),.int .i64 (ofDecE (bodyL l))]) ∧ W = w'):=
  fun W=>OfDec_any ⟨(bodyL l).toArray⟩ W (by rw [str_size];unfold maxLen;omega)
 have HP:=Lib.hid (fun W=>powered_all (bodyL l) W (Nat.le_trans hbl hs))
 have hlt:decide ((⟨(bodyL l).toArray⟩:ByteArray).size < (⟨l.toArray⟩:ByteArray).size) = decide ((bodyL l).length < l.length):=by rw [str_size,str_size]
 have HTx:∀ a,a < 18446744073709551616 → Hid (∀ W,Calls Tryz.prog 120 #[fv (if decide ((bodyL l).length < l.length) then ng a else a)] W fun e w'=>e = .returned (.string (txt (signV l a))) ∧ Below W.heap.size W w'):=by
  intro a ha W
  rw [if_signV]
  refine Text_any _ W ?_
  unfold signV
  split
  ·exact ng_lt a ha
  ·exact ha
 have hxs:∀ X:ByteArray,(X.toList == (⟨l.toArray⟩:ByteArray).toList) = (X.data.toList == l):=fun X=>by rw [Lib.toList_data,Lib.toList_data]
 have hT:∀ k:List UInt8,((⟨(bodyL l).toArray⟩:ByteArray).toList == k) = decide (bodyL l = k):=fun k=>by rw [Lib.toList_data];rw [Bool.eq_iff_iff,beq_iff_eq,decide_eq_true_iff]
 have fin2:∀ (a:Nat) (bad:Bool),((if bad then Value.tuple #[fv 0,.int .i64 200] else .tuple #[fv (if decide ((bodyL l).length < l.length) then ng a else a),.int .i64 0])) = (match (if bad then none else some (signV l a)) with | some a=>Value.tuple #[fv a,.int .i64 0] | none=>.tuple #[fv 0,.int .i64 200]):=by
  intro a bad
  rw [if_signV]
  cases bad <;> rfl
 have hE:∀ (a:Nat) (is:Bool),bodyV (bodyL l) = some (a,is) → ofE l = (match (if ((!is || l.contains 112) && !((txt (signV l a)).data.toList == l)) then none else some (signV l a)) with | some a=>Value.tuple #[fv a,.int .i64 0] | none=>.tuple #[fv 0,.int .i64 200]):=by
  intro a is h
  unfold ofE ofT
  rw [h]
 cases hd:decOkL (bodyL l)
 ·rw [hd] at HD
  by_cases hn:bodyL l = nanL
  ·have hb:bodyV (bodyL l) = some (NANB,false):=by unfold bodyV;rw [hd,if_neg Bool.false_ne_true,if_pos hn]
   have:=of_nan _ _ _ NANB (bodyV_lt hb) _ _ _ w HB HD (HTx NANB (bodyV_lt hb)) (by rw [hT];exact decide_eq_true hn) rfl hlt (hxs _)
   refine this.mono fun e w' h=>⟨h.1.trans ?_,h.2⟩
   rw [fin2,hE _ _ hb,Bool.not_false,Bool.true_or,Bool.true_and]
  ·by_cases hi:bodyL l = infL
   ·have hb:bodyV (bodyL l) = some (9218868437227405312,false):=by unfold bodyV;rw [hd,if_neg Bool.false_ne_true,if_neg hn,if_pos hi]
    have:=of_inf _ _ _ 9218868437227405312 (bodyV_lt hb) _ _ _ w HB HD (HTx _ (bodyV_lt hb)) (by rw [hT];exact decide_eq_false hn) (by rw [hT];exact decide_eq_true hi) rfl hlt (hxs _)
    refine this.mono fun e w' h=>⟨h.1.trans ?_,h.2⟩
    rw [fin2,hE _ _ hb,Bool.not_false,Bool.true_or,Bool.true_and]
   ·have sn:((⟨(bodyL l).toArray⟩:ByteArray).toList == [110,97,110]) = false:=by rw [hT];exact decide_eq_false hn
    have si:((⟨(bodyL l).toArray⟩:ByteArray).toList == [105,110,102]) = false:=by rw [hT];exact decide_eq_false hi
    have hpow:∀ (hx:((ofDecE (bodyL l) == 0) = false) ∨ (ofDecE (bodyL l) = 0 ∧ ¬ ofDecX (bodyL l) ≤ 9007199254740992)) (hb:bodyV (bodyL l) = if powOkL (bodyL l) then some (powVL (bodyL l),true) else none),Calls Tryz.prog 135 #[.string ⟨l.toArray⟩] w fun e w'=>e = .returned (ofE l) ∧ Below w.heap.size w w':=by
     intro hx hb
     cases hp:powOkL (bodyL l)
     ·rw [hp] at HP
      rw [hp,if_neg Bool.false_ne_true] at hb
      refine (of_fail _ _ _ _ _ _ w HB HD HO HP sn si hx).mono fun e w' h=>⟨h.1.trans ?_,h.2⟩
      unfold ofE ofT
      rw [hb]
     ·rw [hp] at HP
      rw [hp,if_pos rfl] at hb
      refine (of_pow _ _ _ _ (bodyV_lt hb) _ _ _ _ _ _ w HB HD HCt (HTx _ (bodyV_lt hb)) HO HP sn si hx hlt (hxs _)).mono fun e w' h=>⟨h.1.trans ?_,h.2⟩
      rw [fin2,hE _ _ hb,Bool.not_true,Bool.false_or]
    cases ho:ofDecV (bodyL l) with
    | none =>
     refine hpow (.inl (by rw [(ofDec_no ho).2];rfl)) ?_
     unfold bodyV
     rw [hd,if_neg Bool.false_ne_true,if_neg hn,if_neg hi,ho]
    | some x =>
     by_cases hx:x ≤ 9007199254740992
     ·have hb:bodyV (bodyL l) = some (fl x,false):=by
       unfold bodyV
       rw [hd,if_neg Bool.false_ne_true,if_neg hn,if_neg hi,ho]
       simp only [hx,if_true]
      have e1:=(ofDec_yes ho).1
      have e2:=(ofDec_yes ho).2
      refine (of_num _ _ _ (fl x) (bodyV_lt hb) _ _ _ x _ w HB HD (HTx _ (bodyV_lt hb)) (by rw [← e1];exact HO) sn si hx e2 rfl hlt (hxs _)).mono fun e w' h=>⟨h.1.trans ?_,h.2⟩
      rw [fin2,hE _ _ hb,Bool.not_false,Bool.true_or,Bool.true_and]
     ·refine hpow (.inr ⟨(ofDec_yes ho).2,by rw [(ofDec_yes ho).1];exact hx⟩) ?_
      unfold bodyV
      rw [hd,if_neg Bool.false_ne_true,if_neg hn,if_neg hi,ho]
      simp only [hx,if_false]
 ·rw [hd] at HD
  have hb:bodyV (bodyL l) = some (decVL (bodyL l),true):=by unfold bodyV;rw [hd,if_pos rfl]
  refine (of_dec _ _ _ _ (bodyV_lt hb) _ _ _ w HB HD HCt (HTx _ (bodyV_lt hb)) hlt (hxs _)).mono fun e w' h=>⟨h.1.trans ?_,h.2⟩
  rw [fin2,hE _ _ hb,Bool.not_true,Bool.false_or]
end Go.Proofs.YtmfpmandkhiknaaGreatDoor.flt
