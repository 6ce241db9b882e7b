/-
  Proved: what strings.Cut gives at a slash. Conditions: as each theorem says.
  Proved: what strings.IndexRune gives for a rune from 128 on in the text of the bytes 47 and 0; which bytes a rune that is read takes. Conditions: as each theorem says.
-/
import Derived.Test.YtifhnpkapgaboaaGreatPj1
import Derived.Test.YtifhnpkapgaboaaGreatPj2
import Derived.Test.YtifhnpkapgaboaaGreatRows
import Derived.WalkSpells
import Derived.Outline
import Derived.Lib.Hide
import Derived.Lib.IndexLaws
import Derived.Laws.RangeAny
import Derived.WalkLawsBesides
set_option linter.unusedVariables false
set_option linter.unusedSimpArgs false
namespace Go.Proofs.YtifhnpkapgaboaaGreat.path
open Go.RowKit
open heap
theorem str_size (l:List UInt8):(⟨l.toArray⟩:ByteArray).size = l.length:=by show l.toArray.size = _;simp
theorem index_no {l:List UInt8} (h:(47:UInt8) ∉ l):Lib.indexByte l 47 = -1:=by
 induction l with
 | nil=>rfl
 | cons c r ih =>
  rw [List.mem_cons,not_or] at h
  have:(c == 47) = false:=by rw [beq_eq_false_iff_ne];exact fun e=>h.1 e.symm
  rw [Lib.indexByte,this,ih h.2];rfl
theorem index_yes {a b:List UInt8} (h:(47:UInt8) ∉ a):Lib.indexByte (a ++ 47 :: b) 47 = a.length:=by
 induction a with
 | nil=>simp [Lib.indexByte]
 | cons c r ih =>
  rw [List.mem_cons,not_or] at h
  have h1:(c == 47) = false:=by rw [beq_eq_false_iff_ne];exact fun e=>h.1 e.symm
  have h2:((r.length:Int) == -1) = false:=by rw [beq_eq_false_iff_ne];omega
  rw [List.cons_append,Lib.indexByte,h1,ih h.2]
  simp only [Bool.false_eq_true,if_false,h2,List.length_cons]
  omega
theorem ext_front (a b:List UInt8):(⟨(a ++ 47 :: b).toArray⟩:ByteArray).extract 0 a.length = ⟨a.toArray⟩:=by
 apply ByteArray.ext
 rw [ByteArray.data_extract]
 apply Array.toList_inj.1
 simp [List.extract_eq_take_drop]
theorem ext_back (a b:List UInt8) (n:Nat) (hn:n = (a ++ 47 :: b).length):(⟨(a ++ 47 :: b).toArray⟩:ByteArray).extract (a.length + 1) n = ⟨b.toArray⟩:=by
 subst hn
 apply ByteArray.ext
 rw [ByteArray.data_extract]
 apply Array.toList_inj.1
 simp only [List.extract_eq_take_drop,List.drop_append,Array.toList_extract]
 rw [List.drop_eq_nil_of_le (by omega),List.nil_append,show a.length + 1 - a.length = 1 by omega,List.drop_succ_cons,List.drop_zero,List.take_of_length_le (by simp;omega)]
set_option maxRecDepth 100000 in
theorem sCut_no (l:List UInt8) (w:World) (h:(47:UInt8) ∉ l) (hs:l.length ≤ 9223372036854775807) :
  Calls Tryz.prog 158 #[.string ⟨l.toArray⟩,.string ⟨#[47]⟩] w fun e w'=>e = .returned (.tuple #[.string ⟨l.toArray⟩,.string ⟨#[]⟩,.bool false]) ∧ Below w.heap.size w w':=by
 have HI:=Lib.hid (fun W:World=>Tryz.stringslite_Index_one ⟨l.toArray⟩ 47 W)
 have HX:=Lib.hid (index_no h)
 clear h
 go_enter Tryz.func158,Tryz.ntmps158
 go_wp2_with fail
 (with_reducible refine (HI.out _).mono ?_);rintro e w1 ⟨rfl,rfl⟩
 rw [HX.out]
 go_wp2
 go_ret3
 exact ⟨rfl,Below.refl _ _⟩
set_option maxRecDepth 100000 in
theorem sCut_yes (a b:List UInt8) (w:World) (h:(47:UInt8) ∉ a) (hs:(a ++ 47 :: b).length ≤ 9223372036854775807) :
  Calls Tryz.prog 158 #[.string ⟨(a ++ 47 :: b).toArray⟩,.string ⟨#[47]⟩] w fun e w'=>e = .returned (.tuple #[.string ⟨a.toArray⟩,.string ⟨b.toArray⟩,.bool true]) ∧ Below w.heap.size w w':=by
 have HI:=Lib.hid (fun W:World=>Tryz.stringslite_Index_one ⟨(a ++ 47 :: b).toArray⟩ 47 W)
 have HX:=Lib.hid (index_yes (b:=b) h)
 have z:=str_size (a ++ 47 :: b)
 have e1:=ext_front a b
 have e2:=ext_back a b _ rfl
 have hl:(a ++ 47 :: b).length = a.length + 1 + b.length:=by simp;omega
 rw [hl] at z e2 hs
 have HD:Hid ((⟨(a ++ 47 :: b).toArray⟩:ByteArray).data.toList = a ++ 47 :: b):=by simp [Hid]
 generalize hS:(⟨(a ++ 47 :: b).toArray⟩:ByteArray) = S at *
 have z1:a.length + 1 ≤ S.size:=by omega
 have z2:S.size ≤ 9223372036854775807:=by omega
 have e2':S.extract (a.length + 1) S.size = ⟨b.toArray⟩:=by rw [z];exact e2
 have q1:IntKind.i64.wrap ((a.length:Int) + 1) = a.length + 1:=by rw [IntKind.wrap_i64];omega
 have i1:(a.length:Int) ≤ S.size:=by omega
 have i2:(a.length:Int) + 1 ≤ S.size:=by omega
 clear h z e2 hS hl hs
 go_enter Tryz.func158,Tryz.ntmps158
 go_wp2_with fail
 (with_reducible refine (HI.out _).mono ?_);rintro e w1 ⟨rfl,rfl⟩
 rw [HD.out,HX.out]
 go_wp2_with fail
 refine reg.region_each (by kernel_rfl) reg.Ext (fun ri v w'=>match ri with
   | 0=>v = .string S
   | 1=>v = .int .i64 a.length
   | 2=>v = .string ⟨a.toArray⟩
   | 3=>v = .string S
   | 4=>v = .int .i64 a.length
   | 5=>v = .string ⟨#[47]⟩
   | 6=>v = .int .i64 1
   | 7=>v = .int .i64 (a.length + 1)
   | 8=>v = .string ⟨b.toArray⟩
   | 9=>v = .string ⟨a.toArray⟩
   | 10=>v = .string ⟨b.toArray⟩
   | 11=>v = .bool true
   | _=>True) reg.Ext.refl reg.Ext.trans ?_ (by kernel_rfl) ?_ ?_
 ·
  intro i v w1 w2 h hx
  rcases i with _|_|_|_|_|_|_|_|_|_|_|_|i
  ·exact h
  ·exact h
  ·exact h
  ·exact h
  ·exact h
  ·exact h
  ·exact h
  ·exact h
  ·exact h
  ·exact h
  ·exact h
  ·exact h
  ·trivial
 ·
  refine ⟨?_,?_,?_,?_,?_,?_,?_,?_,?_,?_,?_,?_,trivial⟩
  ·-- 0: slot 13:=Op.move t0
   intro ra w' hx hs
   have s0:ra.eval (.tmp 0) = .string S:=hs.1
   clear hs
   change Oper.wp _ _ ra w' _ _
   refine reg.wp_value (v:=.string S) (w':=w') ?_ ⟨_,rfl,reg.Ext.refl _,rfl⟩
   intro ρ rc rf rg re
   rw [re] at s0
   simp [execOp,go_sem,rc,rf,rg,s0] <;> first | omega | rfl | decide
  ·-- 1: slot 14:=Op.move t7
   intro ra w' hx hs
   have s7:ra.eval (.tmp 7) = .int .i64 a.length:=hs.1
   clear hs
   change Oper.wp _ _ ra w' _ _
   refine reg.wp_value (v:=.int .i64 a.length) (w':=w') ?_ ⟨_,rfl,reg.Ext.refl _,rfl⟩
   intro ρ rc rf rg re
   rw [re] at s7
   simp [execOp,go_sem,rc,rf,rg,s7] <;> first | omega | rfl | decide
  ·-- 2: slot 15:=Op.slice 9 t13 none (some t14) none
   intro ra w' hx hs
   have s13:ra.eval (.tmp 13) = .string S:=hs.1
   have s14:ra.eval (.tmp 14) = .int .i64 a.length:=hs.2.1
   clear hs
   change Oper.wp _ _ ra w' _ _
   refine reg.wp_value (v:=.string ⟨a.toArray⟩) (w':=w') ?_ ⟨_,rfl,reg.Ext.refl _,rfl⟩
   intro ρ rc rf rg re
   rw [re] at s13 s14
   simp [execOp,go_sem,rc,rf,rg,s13,s14,e1,i1,z1] <;> first | omega | rfl | decide
  ·-- 3: slot 16:=Op.move t0
   intro ra w' hx hs
   have s0:ra.eval (.tmp 0) = .string S:=hs.1
   clear hs
   change Oper.wp _ _ ra w' _ _
   refine reg.wp_value (v:=.string S) (w':=w') ?_ ⟨_,rfl,reg.Ext.refl _,rfl⟩
   intro ρ rc rf rg re
   rw [re] at s0
   simp [execOp,go_sem,rc,rf,rg,s0] <;> first | omega | rfl | decide
  ·-- 4: slot 17:=Op.move t7
   intro ra w' hx hs
   have s7:ra.eval (.tmp 7) = .int .i64 a.length:=hs.1
   clear hs
   change Oper.wp _ _ ra w' _ _
   refine reg.wp_value (v:=.int .i64 a.length) (w':=w') ?_ ⟨_,rfl,reg.Ext.refl _,rfl⟩
   intro ρ rc rf rg re
   rw [re] at s7
   simp [execOp,go_sem,rc,rf,rg,s7] <;> first | omega | rfl | decide
  ·-- 5: slot 18:=Op.move t1
   intro ra w' hx hs
   have s1:ra.eval (.tmp 1) = .string ⟨#[47]⟩:=hs.1
   clear hs
   change Oper.wp _ _ ra w' _ _
   refine reg.wp_value (v:=.string ⟨#[47]⟩) (w':=w') ?_ ⟨_,rfl,reg.Ext.refl _,rfl⟩
   intro ρ rc rf rg re
   rw [re] at s1
   simp [execOp,go_sem,rc,rf,rg,s1] <;> first | omega | rfl | decide
  ·-- 6: slot 19:=Op.call { builtin len,args := #[t18],argTypes := #[9] }
   intro ra w' hx hs
   have s18:ra.eval (.tmp 18) = .string ⟨#[47]⟩:=hs.1
   clear hs
   change Oper.wp _ _ ra w' _ _
   refine reg.wp_value (v:=.int .i64 1) (w':=w') ?_ ⟨_,rfl,reg.Ext.refl _,rfl⟩
   intro ρ rc rf rg re
   rw [re] at s18
   simp [execOp,go_sem,rc,rf,rg,s18] <;> first | omega | rfl | decide
  ·-- 7: slot 20:=Op.binOp BinOp.add 3 t17 t19 3
   intro ra w' hx hs
   have s17:ra.eval (.tmp 17) = .int .i64 a.length:=hs.1
   have s19:ra.eval (.tmp 19) = .int .i64 1:=hs.2.1
   clear hs
   change Oper.wp _ _ ra w' _ _
   refine reg.wp_value (v:=.int .i64 (a.length + 1)) (w':=w') ?_ ⟨_,rfl,reg.Ext.refl _,rfl⟩
   intro ρ rc rf rg re
   rw [re] at s17 s19
   simp [execOp,go_sem,rc,rf,rg,s17,s19,q1] <;> first | omega | rfl | decide
  ·-- 8: slot 21:=Op.slice 9 t16 (some t20) none none
   intro ra w' hx hs
   have s16:ra.eval (.tmp 16) = .string S:=hs.1
   have s20:ra.eval (.tmp 20) = .int .i64 (a.length + 1):=hs.2.1
   clear hs
   change Oper.wp _ _ ra w' _ _
   refine reg.wp_value (v:=.string ⟨b.toArray⟩) (w':=w') ?_ ⟨_,rfl,reg.Ext.refl _,rfl⟩
   intro ρ rc rf rg re
   rw [re] at s16 s20
   simp [execOp,go_sem,rc,rf,rg,s16,s20,e2',i2,z1] <;> first | omega | rfl | decide
  ·-- 9: slot 4:=Op.assign t15
   intro ra w' hx hs
   have s15:ra.eval (.tmp 15) = .string ⟨a.toArray⟩:=hs.1
   clear hs
   change Oper.wp _ _ ra w' _ _
   refine reg.wp_value (v:=.string ⟨a.toArray⟩) (w':=w') ?_ ⟨_,rfl,reg.Ext.refl _,rfl⟩
   intro ρ rc rf rg re
   rw [re] at s15
   simp [execOp,go_sem,rc,rf,rg,s15] <;> first | omega | rfl | decide
  ·-- 10: slot 5:=Op.assign t21
   intro ra w' hx hs
   have s21:ra.eval (.tmp 21) = .string ⟨b.toArray⟩:=hs.1
   clear hs
   change Oper.wp _ _ ra w' _ _
   refine reg.wp_value (v:=.string ⟨b.toArray⟩) (w':=w') ?_ ⟨_,rfl,reg.Ext.refl _,rfl⟩
   intro ρ rc rf rg re
   rw [re] at s21
   simp [execOp,go_sem,rc,rf,rg,s21] <;> first | omega | rfl | decide
  ·-- 11: slot 6:=Op.assign (const (Value.bool true))
   intro ra w' hx hs
   clear hs
   change Oper.wp _ _ ra w' _ _
   refine reg.wp_value (v:=.bool true) (w':=w') ?_ ⟨_,rfl,reg.Ext.refl _,rfl⟩
   intro ρ rc rf rg re
   simp [execOp,go_sem,rc,rf,rg] <;> first | omega | rfl | decide
 intro rV w2 hx hf
 have ve0:rV 0 = .string S:=hf 0 (by decide)
 have ve1:rV 1 = .int .i64 a.length:=hf 1 (by decide)
 have ve2:rV 2 = .string ⟨a.toArray⟩:=hf 2 (by decide)
 have ve3:rV 3 = .string S:=hf 3 (by decide)
 have ve4:rV 4 = .int .i64 a.length:=hf 4 (by decide)
 have ve5:rV 5 = .string ⟨#[47]⟩:=hf 5 (by decide)
 have ve6:rV 6 = .int .i64 1:=hf 6 (by decide)
 have ve7:rV 7 = .int .i64 (a.length + 1):=hf 7 (by decide)
 have ve8:rV 8 = .string ⟨b.toArray⟩:=hf 8 (by decide)
 have ve9:rV 9 = .string ⟨a.toArray⟩:=hf 9 (by decide)
 have ve10:rV 10 = .string ⟨b.toArray⟩:=hf 10 (by decide)
 have ve11:rV 11 = .bool true:=hf 11 (by decide)
 clear hf
 simp only [List.zipIdx_cons,List.zipIdx_nil,List.foldl_cons,List.foldl_nil,Act.put,Nat.reduceAdd,List.setIfInBounds_toArray,List.set_cons_succ,List.set_cons_zero,ve0,ve1,ve2,ve3,ve4,ve5,ve6,ve7,ve8,ve9,ve10,ve11]
 clear ve0 ve1 ve2 ve3 ve4 ve5 ve6 ve7 ve8 ve9 ve10 ve11
 clear rV
 go_wp2_with fail
 go_ret3
 exact ⟨rfl,Below.trans (Below.drew (Below.refl _ _)) hx⟩
set_option maxRecDepth 100000 in
theorem Cut_no (l:List UInt8) (w:World) (h:(47:UInt8) ∉ l) (hs:l.length ≤ 9223372036854775807) :
  Calls Tryz.prog 142 #[.string ⟨l.toArray⟩,.string ⟨#[47]⟩] w fun e w'=>e = .returned (.tuple #[.string ⟨l.toArray⟩,.string ⟨#[]⟩,.bool false]) ∧ Below w.heap.size w w':=by
 have HI:=Lib.hid (fun W:World=>sCut_no l W h hs)
 clear h
 go_enter Tryz.func142,Tryz.ntmps142
 go_wp2_with fail
 (with_reducible refine (HI.out _).mono ?_);rintro e w1 ⟨rfl,hb⟩
 go_wp2
 go_ret3
 exact ⟨rfl,hb⟩
set_option maxRecDepth 100000 in
theorem Cut_yes (a b:List UInt8) (w:World) (h:(47:UInt8) ∉ a) (hs:(a ++ 47 :: b).length ≤ 9223372036854775807) :
  Calls Tryz.prog 142 #[.string ⟨(a ++ 47 :: b).toArray⟩,.string ⟨#[47]⟩] w fun e w'=>e = .returned (.tuple #[.string ⟨a.toArray⟩,.string ⟨b.toArray⟩,.bool true]) ∧ Below w.heap.size w w':=by
 have HI:=Lib.hid (fun W:World=>sCut_yes a b W h hs)
 clear h
 generalize hS:(⟨(a ++ 47 :: b).toArray⟩:ByteArray) = S at *
 clear hS hs
 go_enter Tryz.func142,Tryz.ntmps142
 go_wp2_with fail
 (with_reducible refine (HI.out _).mono ?_);rintro e w1 ⟨rfl,hb⟩
 go_wp2
 go_ret3
 exact ⟨rfl,hb⟩
theorem get_k (s:ByteArray) (k:Nat) (h:k < s.size):s.get! k = s[k]'h:=get_at s k h
theorem decode_wide (s:ByteArray) (pos:Nat) (h:pos < s.size) (ha:128 ≤ (s[pos]'h).toNat) :
  (Utf8.decode s pos).1 ≤ 1114111 ∧ ∀ j,j < (Utf8.decode s pos).2 → ∃ hj:pos + j < s.size,128 ≤ (s[pos + j]'hj).toNat:=by
 have hn:¬ (s[pos]'h).toNat < 128:=by omega
 have h0:∃ hj:pos + 0 < s.size,128 ≤ (s[pos + 0]'hj).toNat:=⟨h,ha⟩
 have key:∀ k,(decide (pos + k < s.size) && (s.get! (pos + k)).toNat / 64 == 2) = true → ∃ hj:pos + k < s.size,128 ≤ (s[pos + k]'hj).toNat:=by
  intro k hk
  simp only [Bool.and_eq_true,decide_eq_true_eq,beq_iff_eq] at hk
  refine ⟨hk.1,?_⟩
  rw [get_k s _ hk.1] at hk
  omega
 have one:∀ r:Nat,r ≤ 1114111 → r ≤ 1114111 ∧ ∀ j,j < 1 → ∃ hj:pos + j < s.size,128 ≤ (s[pos + j]'hj).toNat:=fun r hr=>⟨hr,fun j hj=>by obtain rfl:j = 0:=(by omega);exact h0⟩
 have hb:∀ k,(s.get! (pos + k)).toNat < 256:=fun k=>(s.get! (pos + k)).toNat_lt
 have b1:=hb 1;have b2:=hb 2;have b3:=hb 3
 have b0:(s[pos]'h).toNat < 256:=(s[pos]'h).toNat_lt
 simp only [Utf8.decode,get_at s pos h,hn,if_false]
 split
 ·rename_i hc
  rw [Bool.and_eq_true] at hc
  split
  ·refine ⟨by omega,fun j hj => ?_⟩
   match j,hj with
   | 0,_=>exact h0
   | 1,_=>exact key 1 hc.2
  ·exact one _ (by decide)
 ·split
  ·rename_i hc
   rw [Bool.and_eq_true,Bool.and_eq_true] at hc
   split
   ·refine ⟨by omega,fun j hj => ?_⟩
    match j,hj with
    | 0,_=>exact h0
    | 1,_=>exact key 1 hc.1.2
    | 2,_=>exact key 2 hc.2
   ·exact one _ (by decide)
  ·split
   ·rename_i hc
    rw [Bool.and_eq_true,Bool.and_eq_true,Bool.and_eq_true] at hc
    split
    ·rename_i hv
     simp only [Bool.and_eq_true,Utf8.valid] at hv
     refine ⟨?_,fun j hj => ?_⟩
     ·have:=hv.2
      simp at this
      omega
     ·match j,hj with
      | 0,_=>exact h0
      | 1,_=>exact key 1 hc.1.1.2
      | 2,_=>exact key 2 hc.1.2
      | 3,_=>exact key 3 hc.2
    ·exact one _ (by decide)
   ·exact one _ (by decide)
theorem encode_high (r:Int) (h:128 ≤ r):((Utf8.encode r).size = 2 ∧ ∃ x y:UInt8,Utf8.encode r = ⟨#[x,y]⟩ ∧ 128 ≤ y.toNat) ∨ (3 ≤ (Utf8.encode r).size ∧ (Utf8.encode r).size ≤ 4):=by
 have hc:¬ (if Utf8.valid r then r.toNat else Utf8.runeError) < 128:=by
  split
  ·omega
  ·decide
 unfold Utf8.encode
 simp only [hc,if_false]
 generalize (if Utf8.valid r then r.toNat else Utf8.runeError) = c at *
 split
 ·refine .inl ⟨rfl,_,_,rfl,?_⟩
  rw [UInt8.toNat_ofNat_of_lt' (by show _ < 256;omega)]
  omega
 ·right
  split
  ·exact ⟨Nat.le_refl 3,by show 3 ≤ 4;omega⟩
  ·exact ⟨by show 3 ≤ 4;omega,Nat.le_refl 4⟩
theorem conv_rune (r:Int) (w:World):(convert 21 9 (.int .i32 r)).run Tryz.prog w = .ok (.string (Utf8.encode r)) w:=by
 simp [convert,go_sem,Tryz.underlying21,Tryz.underlying9,Conv.intToString]
set_option maxRecDepth 100000 in
set_option maxHeartbeats 1000000 in
theorem rune_error (w:World) :
  Calls Tryz.prog 168 #[.string ⟨#[47,0]⟩,.int .i32 65533] w fun e w'=>e = .returned (.int .i64 (-1)) ∧ Below w.heap.size w w':=by
 go_enter Tryz.func168,Tryz.ntmps168
 go_wp2_with fail
 go_loopw [5,6] (fun _ _ wr=>∃ i:Nat,i ≤ 2 ∧ Hid (wr = w.iter ⟨#[47,0]⟩ i)) (fun _ _ wr=>2 - wr.iterPos w.heap.size)
 case atStart=>exact ⟨0,by omega,rfl⟩
 case round =>
  obtain ⟨i,hi,HW⟩:=hrel
  obtain rfl:=HW.out
  clear HW
  rcases (show i = 0 ∨ i = 1 ∨ i = 2 by omega) with rfl | rfl | rfl
  ·have hnx:=fun ty=>run_next_ascii (P:=Tryz.prog) w ⟨#[47,0]⟩ 0 ty (by decide) (by decide)
   go_wp2_with fail
   go_roundw
   case rel=>exact ⟨1,by omega,rfl⟩
   case measure=>simp
  ·have hnx:=fun ty=>run_next_ascii (P:=Tryz.prog) w ⟨#[47,0]⟩ 1 ty (by decide) (by decide)
   go_wp2_with fail
   go_roundw
   case rel=>exact ⟨2,by omega,rfl⟩
   case measure=>simp
  ·have hnx:=fun ty=>run_next_end (P:=Tryz.prog) w ⟨#[47,0]⟩ 2 ty (by decide)
   go_wp2_with fail
   go_ret
   exact ⟨rfl,(Below.refl _ _).alloc (Nat.le_refl _) _⟩
set_option maxRecDepth 100000 in
set_option maxHeartbeats 1000000 in
theorem rune_bad (r:Int) (w:World) (h:128 ≤ r) (h2:r ≤ 1114111) (hne:r ≠ 65533) (hv:Lib.validRune r = false) :
  Calls Tryz.prog 168 #[.string ⟨#[47,0]⟩,.int .i32 r] w fun e w'=>e = .returned (.int .i64 (-1)) ∧ Below w.heap.size w w':=by
 have b1:(r == 65533) = false:=by rw [beq_eq_false_iff_ne];exact hne
 have HV:=Lib.hid (fun W:World=>Tryz.utf8_ValidRune r W)
 have HH:=Lib.hid hv
 clear hne hv
 go_enter Tryz.func168,Tryz.ntmps168
 go_wp2_with fail
 (with_reducible refine (HV.out _).mono ?_);rintro e w1 ⟨rfl,rfl⟩
 rw [HH.out]
 go_wp2_with fail
 go_ret
 exact ⟨rfl,Below.refl _ _⟩
set_option maxRecDepth 100000 in
set_option maxHeartbeats 1000000 in
theorem rune_good (r:Int) (w:World) (h:128 ≤ r) (h2:r ≤ 1114111) (hne:r ≠ 65533) (hv:Lib.validRune r = true) :
  Calls Tryz.prog 168 #[.string ⟨#[47,0]⟩,.int .i32 r] w fun e w'=>e = .returned (.int .i64 (-1)) ∧ Below w.heap.size w w':=by
 have b1:(r == 65533) = false:=by rw [beq_eq_false_iff_ne];exact hne
 have HV:=Lib.hid (fun W:World=>Tryz.utf8_ValidRune r W)
 have HH:=Lib.hid hv
 have hc:=conv_rune r
 have d1:decide (r < 128) = false:=by simp;omega
 have hE:=encode_high r h
 have HC:=Lib.hid hc
 clear hne hv hc
 rcases hE with ⟨hz,x,y,he,hy⟩ | ⟨hz1,hz2⟩
 ·rw [he] at HC
  have hc:=HC.out
  have HB:=Lib.hid (fun W:World=>Tryz.strings_IndexByte ⟨#[]⟩ (y.toNat:Int) W)
  have hne:((0:Int) != (y.toNat:Int)) = true:=by rw [bne_iff_ne];omega
  clear hz he
  go_enter Tryz.func168,Tryz.ntmps168
  go_wp2_with fail
  (with_reducible refine (HV.out _).mono ?_);rintro e w1 ⟨rfl,rfl⟩
  rw [HH.out]
  go_wp2_with fail
  go_step3
  go_wp2_with fail
  go_loopw [9] (fun i wr=>i = .int .i64 1 ∧ Hid (w1 = wr)) (fun _ _=>0)
  case atStart=>exact ⟨rfl,rfl⟩
  case round =>
   obtain ⟨rfl,HW⟩:=hrel
   go_wp2_with fail
   go_step3
   go_wp2_with fail
   refine reg.region_each (by kernel_rfl) reg.Ext (fun ri v w'=>match ri with
     | 0=>v = .string ⟨#[47,0]⟩
     | 1=>v = .int .i64 1
     | 2=>v = .int .u8 0
     | 3=>v = .string ⟨#[x,y]⟩
     | 4=>v = .int .i64 1
     | 5=>v = .int .u8 y.toNat
     | 6=>v = .bool true
     | _=>True) reg.Ext.refl reg.Ext.trans ?_ (by kernel_rfl) ?_ ?_
   ·
    intro i v w1 w2 h hx
    rcases i with _|_|_|_|_|_|_|i
    ·exact h
    ·exact h
    ·exact h
    ·exact h
    ·exact h
    ·exact h
    ·exact h
    ·trivial
   ·
    refine ⟨?_,?_,?_,?_,?_,?_,?_,trivial⟩
    ·-- 0: slot 27:=Op.move t0
     intro ra w' hx hs
     have s0:ra.eval (.tmp 0) = .string ⟨#[47,0]⟩:=hs.1
     clear hs
     change Oper.wp _ _ ra w' _ _
     refine reg.wp_value (v:=.string ⟨#[47,0]⟩) (w':=w') ?_ ⟨_,rfl,reg.Ext.refl _,rfl⟩
     intro ρ rc rf rg re
     rw [re] at s0
     simp [execOp,go_sem,rc,rf,rg,s0] <;> first | omega | rfl | decide
    ·-- 1: slot 28:=Op.move t9
     intro ra w' hx hs
     have s9:ra.eval (.tmp 9) = .int .i64 1:=hs.1
     clear hs
     change Oper.wp _ _ ra w' _ _
     refine reg.wp_value (v:=.int .i64 1) (w':=w') ?_ ⟨_,rfl,reg.Ext.refl _,rfl⟩
     intro ρ rc rf rg re
     rw [re] at s9
     simp [execOp,go_sem,rc,rf,rg,s9] <;> first | omega | rfl | decide
    ·-- 2: slot 29:=Op.index 9 t27 t28
     intro ra w' hx hs
     have s27:ra.eval (.tmp 27) = .string ⟨#[47,0]⟩:=hs.1
     have s28:ra.eval (.tmp 28) = .int .i64 1:=hs.2.1
     clear hs
     change Oper.wp _ _ ra w' _ _
     refine reg.wp_value (v:=.int .u8 0) (w':=w') ?_ ⟨_,rfl,reg.Ext.refl _,rfl⟩
     intro ρ rc rf rg re
     rw [re] at s27 s28
     simp [execOp,go_sem,rc,rf,rg,s27,s28] <;> first | omega | rfl | decide
    ·-- 3: slot 30:=Op.move t7
     intro ra w' hx hs
     have s7:ra.eval (.tmp 7) = .string ⟨#[x,y]⟩:=hs.1
     clear hs
     change Oper.wp _ _ ra w' _ _
     refine reg.wp_value (v:=.string ⟨#[x,y]⟩) (w':=w') ?_ ⟨_,rfl,reg.Ext.refl _,rfl⟩
     intro ρ rc rf rg re
     rw [re] at s7
     simp [execOp,go_sem,rc,rf,rg,s7] <;> first | omega | rfl | decide
    ·-- 4: slot 31:=Op.move t8
     intro ra w' hx hs
     have s8:ra.eval (.tmp 8) = .int .i64 1:=hs.1
     clear hs
     change Oper.wp _ _ ra w' _ _
     refine reg.wp_value (v:=.int .i64 1) (w':=w') ?_ ⟨_,rfl,reg.Ext.refl _,rfl⟩
     intro ρ rc rf rg re
     rw [re] at s8
     simp [execOp,go_sem,rc,rf,rg,s8] <;> first | omega | rfl | decide
    ·-- 5: slot 32:=Op.index 9 t30 t31
     intro ra w' hx hs
     have s30:ra.eval (.tmp 30) = .string ⟨#[x,y]⟩:=hs.1
     have s31:ra.eval (.tmp 31) = .int .i64 1:=hs.2.1
     clear hs
     change Oper.wp _ _ ra w' _ _
     refine reg.wp_value (v:=.int .u8 y.toNat) (w':=w') ?_ ⟨_,rfl,reg.Ext.refl _,rfl⟩
     intro ρ rc rf rg re
     rw [re] at s30 s31
     simp [execOp,go_sem,rc,rf,rg,s30,s31] <;> first | omega | rfl | decide
    ·-- 6: slot 33:=Op.binOp BinOp.neq 5 t29 t32 5
     intro ra w' hx hs
     have s29:ra.eval (.tmp 29) = .int .u8 0:=hs.1
     have s32:ra.eval (.tmp 32) = .int .u8 y.toNat:=hs.2.1
     clear hs
     change Oper.wp _ _ ra w' _ _
     refine reg.wp_value (v:=.bool true) (w':=w') ?_ ⟨_,rfl,reg.Ext.refl _,rfl⟩
     intro ρ rc rf rg re
     rw [re] at s29 s32
     simp [execOp,go_sem,rc,rf,rg,s29,s32,hne] <;> first | omega | rfl | decide
   intro rV w2 hx hf
   have ve0:rV 0 = .string ⟨#[47,0]⟩:=hf 0 (by decide)
   have ve1:rV 1 = .int .i64 1:=hf 1 (by decide)
   have ve2:rV 2 = .int .u8 0:=hf 2 (by decide)
   have ve3:rV 3 = .string ⟨#[x,y]⟩:=hf 3 (by decide)
   have ve4:rV 4 = .int .i64 1:=hf 4 (by decide)
   have ve5:rV 5 = .int .u8 y.toNat:=hf 5 (by decide)
   have ve6:rV 6 = .bool true:=hf 6 (by decide)
   clear hf
   simp only [List.zipIdx_cons,List.zipIdx_nil,List.foldl_cons,List.foldl_nil,Act.put,Nat.reduceAdd,List.setIfInBounds_toArray,List.set_cons_succ,List.set_cons_zero,ve0,ve1,ve2,ve3,ve4,ve5,ve6]
   clear ve0 ve1 ve2 ve3 ve4 ve5 ve6
   clear rV
   have HB2:Hid (Below w1.heap.size w1 w2):=by rw [HW.out];exact Below.trans (Below.drew (Below.refl _ _)) hx
   clear hx HW
   go_wp2_with fail
   refine reg.region_each (by kernel_rfl) reg.Ext (fun ri v w'=>match ri with
     | 0=>v = .string ⟨#[47,0]⟩
     | 1=>v = .int .i64 1
     | 2=>v = .int .i64 2
     | 3=>v = .string ⟨#[]⟩
     | 4=>v = .string ⟨#[x,y]⟩
     | 5=>v = .int .i64 1
     | 6=>v = .int .u8 y.toNat
     | 7=>v = .int .i64 (-1)
     | 8=>v = .int .i64 (-1)
     | _=>True) reg.Ext.refl reg.Ext.trans ?_ (by kernel_rfl) ?_ ?_
   ·
    intro i v w1 w2 h hx
    rcases i with _|_|_|_|_|_|_|_|_|i
    ·exact h
    ·exact h
    ·exact h
    ·exact h
    ·exact h
    ·exact h
    ·exact h
    ·exact h
    ·exact h
    ·trivial
   ·
    refine ⟨?_,?_,?_,?_,?_,?_,?_,?_,?_,trivial⟩
    ·-- 0: slot 34:=Op.move t0
     intro ra w' hx hs
     have s0:ra.eval (.tmp 0) = .string ⟨#[47,0]⟩:=hs.1
     clear hs
     change Oper.wp _ _ ra w' _ _
     refine reg.wp_value (v:=.string ⟨#[47,0]⟩) (w':=w') ?_ ⟨_,rfl,reg.Ext.refl _,rfl⟩
     intro ρ rc rf rg re
     rw [re] at s0
     simp [execOp,go_sem,rc,rf,rg,s0] <;> first | omega | rfl | decide
    ·-- 1: slot 35:=Op.move t9
     intro ra w' hx hs
     have s9:ra.eval (.tmp 9) = .int .i64 1:=hs.1
     clear hs
     change Oper.wp _ _ ra w' _ _
     refine reg.wp_value (v:=.int .i64 1) (w':=w') ?_ ⟨_,rfl,reg.Ext.refl _,rfl⟩
     intro ρ rc rf rg re
     rw [re] at s9
     simp [execOp,go_sem,rc,rf,rg,s9] <;> first | omega | rfl | decide
    ·-- 2: slot 36:=Op.binOp BinOp.add 3 t35 (const (1:i64)) 3
     intro ra w' hx hs
     have s35:ra.eval (.tmp 35) = .int .i64 1:=hs.1
     clear hs
     change Oper.wp _ _ ra w' _ _
     refine reg.wp_value (v:=.int .i64 2) (w':=w') ?_ ⟨_,rfl,reg.Ext.refl _,rfl⟩
     intro ρ rc rf rg re
     rw [re] at s35
     simp [execOp,go_sem,rc,rf,rg,s35] <;> first | omega | rfl | decide
    ·-- 3: slot 37:=Op.slice 9 t34 (some t36) none none
     intro ra w' hx hs
     have s34:ra.eval (.tmp 34) = .string ⟨#[47,0]⟩:=hs.1
     have s36:ra.eval (.tmp 36) = .int .i64 2:=hs.2.1
     clear hs
     change Oper.wp _ _ ra w' _ _
     refine reg.wp_value (v:=.string ⟨#[]⟩) (w':=w') ?_ ⟨_,rfl,reg.Ext.refl _,rfl⟩
     intro ρ rc rf rg re
     rw [re] at s34 s36
     simp [execOp,go_sem,rc,rf,rg,s34,s36] <;> first | omega | rfl | decide
    ·-- 4: slot 38:=Op.move t7
     intro ra w' hx hs
     have s7:ra.eval (.tmp 7) = .string ⟨#[x,y]⟩:=hs.1
     clear hs
     change Oper.wp _ _ ra w' _ _
     refine reg.wp_value (v:=.string ⟨#[x,y]⟩) (w':=w') ?_ ⟨_,rfl,reg.Ext.refl _,rfl⟩
     intro ρ rc rf rg re
     rw [re] at s7
     simp [execOp,go_sem,rc,rf,rg,s7] <;> first | omega | rfl | decide
    ·-- 5: slot 39:=Op.move t8
     intro ra w' hx hs
     have s8:ra.eval (.tmp 8) = .int .i64 1:=hs.1
     clear hs
     change Oper.wp _ _ ra w' _ _
     refine reg.wp_value (v:=.int .i64 1) (w':=w') ?_ ⟨_,rfl,reg.Ext.refl _,rfl⟩
     intro ρ rc rf rg re
     rw [re] at s8
     simp [execOp,go_sem,rc,rf,rg,s8] <;> first | omega | rfl | decide
    ·-- 6: slot 40:=Op.index 9 t38 t39
     intro ra w' hx hs
     have s38:ra.eval (.tmp 38) = .string ⟨#[x,y]⟩:=hs.1
     have s39:ra.eval (.tmp 39) = .int .i64 1:=hs.2.1
     clear hs
     change Oper.wp _ _ ra w' _ _
     refine reg.wp_value (v:=.int .u8 y.toNat) (w':=w') ?_ ⟨_,rfl,reg.Ext.refl _,rfl⟩
     intro ρ rc rf rg re
     rw [re] at s38 s39
     simp [execOp,go_sem,rc,rf,rg,s38,s39] <;> first | omega | rfl | decide
    ·-- 7: slot 41:=Op.call { value (Operand.func 110),args := #[t37,t40],argTypes := #[9,5] }
     intro ra w' hx hs
     have s37:ra.eval (.tmp 37) = .string ⟨#[]⟩:=hs.1
     have s40:ra.eval (.tmp 40) = .int .u8 y.toNat:=hs.2.1
     clear hs
     change Oper.wp _ _ ra w' _ _
     refine reg.wp_call (f:=110) (args := #[.string ⟨#[]⟩,.int .u8 y.toNat]) (w':=w') ?_ ((HB.out _).mono ?_)
     ·intro ρ rc rf rg re
      rw [re] at s37 s40
      simp [execOp,go_sem,rc,rf,rg,s37,s40] <;> first | omega | rfl | decide
     ·rintro e w3 ⟨rfl,rfl⟩
      exact ⟨_,rfl,_,rfl,reg.Ext.refl _,rfl⟩
    ·-- 8: slot 11:=Op.assign t41
     intro ra w' hx hs
     have s41:ra.eval (.tmp 41) = .int .i64 (-1):=hs.1
     clear hs
     change Oper.wp _ _ ra w' _ _
     refine reg.wp_value (v:=.int .i64 (-1)) (w':=w') ?_ ⟨_,rfl,reg.Ext.refl _,rfl⟩
     intro ρ rc rf rg re
     rw [re] at s41
     simp [execOp,go_sem,rc,rf,rg,s41] <;> first | omega | rfl | decide
   intro rV w3 hx hf
   have ve0:rV 0 = .string ⟨#[47,0]⟩:=hf 0 (by decide)
   have ve1:rV 1 = .int .i64 1:=hf 1 (by decide)
   have ve2:rV 2 = .int .i64 2:=hf 2 (by decide)
   have ve3:rV 3 = .string ⟨#[]⟩:=hf 3 (by decide)
   have ve4:rV 4 = .string ⟨#[x,y]⟩:=hf 4 (by decide)
   have ve5:rV 5 = .int .i64 1:=hf 5 (by decide)
   have ve6:rV 6 = .int .u8 y.toNat:=hf 6 (by decide)
   have ve7:rV 7 = .int .i64 (-1):=hf 7 (by decide)
   have ve8:rV 8 = .int .i64 (-1):=hf 8 (by decide)
   clear hf
   simp only [List.zipIdx_cons,List.zipIdx_nil,List.foldl_cons,List.foldl_nil,Act.put,Nat.reduceAdd,List.setIfInBounds_toArray,List.set_cons_succ,List.set_cons_zero,ve0,ve1,ve2,ve3,ve4,ve5,ve6,ve7,ve8]
   clear ve0 ve1 ve2 ve3 ve4 ve5 ve6 ve7 ve8
   clear rV
   have HB3:Hid (Below w1.heap.size w1 w3):=HB2.out.trans ((Below.trans (Below.drew (Below.refl _ _)) hx).mono HB2.out.size)
   clear hx
   go_wp2_with fail
   rw [Exit.noGoto_ret]
   go_wp2_with fail
   rw [Exit.noGoto_ret]
   go_ret
   exact ⟨rfl,HB3.out⟩
 ·generalize Utf8.encode r = T at *
  have hc:=HC.out
  go_enter Tryz.func168,Tryz.ntmps168
  go_wp2_with fail
  (with_reducible refine (HV.out _).mono ?_);rintro e w1 ⟨rfl,rfl⟩
  rw [HH.out]
  go_wp2_with fail
  go_step3
  go_wp2_with fail
  go_loopw [9] (fun i wr=>i = .int .i64 ((T.size:Int) - 1) ∧ Hid (w1 = wr)) (fun _ _=>0)
  case atStart=>exact ⟨rfl,rfl⟩
  case round =>
   obtain ⟨rfl,HW⟩:=hrel
   go_wp2_with fail
   try rw [Exit.noGoto_ret]
   go_ret
   exact ⟨rfl,by rw [← HW.out];exact Below.refl _ _⟩
theorem rune_high (r:Int) (w:World) (h:128 ≤ r) (h2:r ≤ 1114111) :
  Calls Tryz.prog 168 #[.string ⟨#[47,0]⟩,.int .i32 r] w fun e w'=>e = .returned (.int .i64 (-1)) ∧ Below w.heap.size w w':=by
 by_cases hne:r = 65533
 ·subst hne;exact rune_error w
 ·cases hv:Lib.validRune r with
  | false=>exact rune_bad r w h h2 hne hv
  | true=>exact rune_good r w h h2 hne hv
end Go.Proofs.YtifhnpkapgaboaaGreat.path
