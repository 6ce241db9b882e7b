/-
  Proved: maps with keys that are texts: what they hold, read and written (plain). Conditions: as each theorem says. No program is in sight.
  Proved: what fail, functions and the deferred functions of package check do. Conditions: as each theorem says.
  Proved: maps with keys that are numbers: a fresh key is laid, a key is looked up. Conditions: as each theorem says.
-/
import Derived.WideMake
import Derived.MapKept
import Derived.Test.YtmfpmandkhiknaaGreatDoorPw3
import Derived.Test.YtmfpmandkhiknaaGreatDoorPw32
import Derived.Test.YtmfpmandkhiknaaGreatDoorPw31
import Derived.Defers
import Derived.Recover
set_option linter.unusedVariables false
set_option linter.unusedSimpArgs false
namespace Go.Proofs.YtmfpmandkhiknaaGreatDoor.maps
open Go.RowKit
open heap
abbrev Nm:=List UInt8
def look (k:Nm):List (Nm × Value) → Nat → Option (Nat × Value)
 | [],_=>none
 | x :: r,i=>if k = x.1 then some (i,x.2) else look k r (i + 1)
def MapS (w:World) (b:Nat) (l:List (Nm × Value)):Prop:=
 ∃ (es:Array MapEntry) (clock:Nat),w.heap[b]? = some (.map es clock) ∧ es.toList.map (fun e=>(e.key,e.val)) = l.map (fun x=>(Value.string ⟨x.1.toArray⟩,x.2))
theorem MapS.lt {w:World} {b:Nat} {l:List (Nm × Value)} (h:MapS w b l):b < w.heap.size:=by
 obtain ⟨es,c,h1,_⟩:=h
 exact (Array.getElem?_eq_some_iff.1 h1).1
theorem MapS.kept {w w':World} {b:Nat} {l:List (Nm × Value)} (h:MapS w b l) (hk:w'.heap[b]? = w.heap[b]?):MapS w' b l:=by
 obtain ⟨es,c,h1,h2⟩:=h
 exact ⟨es,c,by rw [hk];exact h1,h2⟩
theorem MapS.turned {w w':World} {b:Nat} {l:List (Nm × Value)} {S:List Nat} (h:MapS w b l) (ht:Turned S w w') (hb:b ∉ S):MapS w' b l:=h.kept (ht.block b h.lt hb)
theorem MapS.new (w:World):MapS (w.alloc (.map #[] 0)) w.heap.size []:=⟨#[],0,blk_new _ _,rfl⟩
theorem str_inj {a b:Nm}:((⟨a.toArray⟩:ByteArray) = ⟨b.toArray⟩) ↔ a = b:=by
 constructor
 ·intro h
  have:=congrArg (fun x:ByteArray=>x.data.toList) h
  simpa using this
 ·rintro rfl;rfl
theorem find_s (k:Nm):∀ (es:List MapEntry) (l:List (Nm × Value)) (i:Nat),es.map (fun e=>(e.key,e.val)) = l.map (fun x=>(Value.string ⟨x.1.toArray⟩,x.2)) → Instr.findNow .string (.string ⟨k.toArray⟩) es i = some (look k l i)
 | [],[],i,_=>rfl
 | [],x :: l,i,h=>by simp at h
 | e :: es,[],i,h=>by simp at h
 | e :: es,x :: l,i,h=>by
  simp only [List.map_cons,List.cons.injEq,Prod.mk.injEq] at h
  obtain ⟨⟨h1,h2⟩,h3⟩:=h
  have ih:=find_s k es l (i + 1) h3
  rw [Instr.findNow,h1,look]
  by_cases hk:k = x.1
  ·have e1:Instr.sameNow .string (.string ⟨k.toArray⟩) (.string ⟨x.1.toArray⟩) = some true:=by
    simp only [Instr.sameNow]
    congr 1
    rw [MapKept.bytes_beq,hk]
   rw [e1,if_pos hk,h2]
  ·have e1:Instr.sameNow .string (.string ⟨k.toArray⟩) (.string ⟨x.1.toArray⟩) = some false:=by
    simp only [Instr.sameNow]
    congr 1
    rw [Bool.eq_false_iff]
    exact fun e=>hk (str_inj.1 ((MapKept.bytes_beq _ _).1 e))
   rw [e1,if_neg hk]
   exact ih
section
variable {P:Program} {t kt et:TypeId}
theorem run_lookup_ok {w:World} {b:Nat} {l:List (Nm × Value)} (h:MapS w b l) (ht:P.underlying t = some (.map kt et)) (hk:P.underlying kt = some .string) (z:Value) (hz:(zeroValue et).run P w = .ok z w) (k:Nm) :
  (Instr.lookup t (.map (some b)) (.string ⟨k.toArray⟩) true).run P w = .ok (.tuple #[(look k l 0).map (·.2) |>.getD z,.bool (look k l 0).isSome]) w:=by
 obtain ⟨es,c,h1,h2⟩:=h
 have hc:∀ e,(Instr.checkKey e 10000 kt (.string ⟨k.toArray⟩)).run P w = .ok () w:=fun e=>MapKept.run_checkKey (k:=.string ⟨k.toArray⟩) hk (by simp [MapKept.IsKey]) e 9999
 have hf:=find_s k es.toList l 0 h2
 cases hl:look k l 0 with
 | none =>
  rw [hl] at hf
  simp [Instr.lookup,run_underlying ht,MapKept.run_getObj_map h1,hc,MapKept.run_findKey hk hf,hz,Result.andThen]
 | some r =>
  obtain ⟨j,v⟩:=r
  rw [hl] at hf
  simp [Instr.lookup,run_underlying ht,MapKept.run_getObj_map h1,hc,MapKept.run_findKey hk hf,Result.andThen]
def upd (k:Nm) (v:Value) (l:List (Nm × Value)):List (Nm × Value):=match look k l 0 with
 | some (j,_)=>l.set j (k,v)
 | none=>l ++ [(k,v)]
theorem look_at {k:Nm}:∀ {l:List (Nm × Value)} {i j:Nat} {v:Value},look k l i = some (j,v) → i ≤ j ∧ l[j - i]? = some (k,v)
 | [],i,j,v,h=>by simp [look] at h
 | x :: l,i,j,v,h=>by
  rw [look] at h
  split at h
  ·rename_i hk
   simp only [Option.some.injEq,Prod.mk.injEq] at h
   obtain ⟨rfl,rfl⟩:=h
   refine ⟨Nat.le_refl _,?_⟩
   simp [hk]
  ·obtain ⟨h1,h2⟩:=look_at h
   refine ⟨by omega,?_⟩
   rw [show j - i = (j - (i + 1)) + 1 by omega]
   simpa using h2
theorem turned_setObj (w:World) (b:Nat) (o:Obj):Turned [b] w { w with heap:=w.heap.setIfInBounds b o }:=by
 refine ⟨rfl,rfl,rfl,by simp,fun k hk hn => ?_⟩
 show (w.heap.setIfInBounds b o)[k]? = _
 rw [Array.getElem?_setIfInBounds]
 rw [if_neg (by simp at hn;exact fun e=>hn e.symm)]
theorem run_update {w:World} {b:Nat} {l:List (Nm × Value)} (h:MapS w b l) (ht:P.underlying t = some (.map kt et)) (hk:P.underlying kt = some .string) (k:Nm) (v:Value) :
  ∃ w',(Instr.mapUpdate t (.map (some b)) (.string ⟨k.toArray⟩) v).run P w = .ok () w' ∧ MapS w' b (upd k v l) ∧ Turned [b] w w':=by
 obtain ⟨es,c,h1,h2⟩:=h
 have hb:b < w.heap.size:=(Array.getElem?_eq_some_iff.1 h1).1
 have hc:∀ e,(Instr.checkKey e 10000 kt (.string ⟨k.toArray⟩)).run P w = .ok () w:=fun e=>MapKept.run_checkKey (k:=.string ⟨k.toArray⟩) hk (by simp [MapKept.IsKey]) e 9999
 have hf:=find_s k es.toList l 0 h2
 cases hl:look k l 0 with
 | none =>
  rw [hl] at hf
  refine ⟨_,by simp [Instr.mapUpdate,run_underlying ht,MapKept.run_getObj_map h1,hc,MapKept.run_findKey hk hf,MapKept.run_setObj_map _ h1,Result.andThen];rfl,?_,turned_setObj _ _ _⟩
  refine ⟨_,_,by show (w.heap.setIfInBounds b _)[b]? = _;rw [Array.getElem?_setIfInBounds,if_pos rfl,if_pos hb],?_⟩
  unfold upd
  rw [hl]
  simp [h2]
 | some r =>
  obtain ⟨j,u⟩:=r
  rw [hl] at hf
  obtain ⟨-,hj⟩:=look_at hl
  rw [Nat.sub_zero] at hj
  have hj2:es.toList.length = l.length:=by simpa using congrArg List.length h2
  have hjl:j < l.length:=(List.getElem?_eq_some_iff.1 hj).1
  have hje:j < es.size:=by simpa [← hj2] using hjl
  have hkey:(es[j]?.map (·.key)).getD (.string ⟨k.toArray⟩) = .string ⟨k.toArray⟩:=by
   have e1:(es.toList.map (fun e=>(e.key,e.val)))[j]? = (l.map (fun x=>(Value.string ⟨x.1.toArray⟩,x.2)))[j]?:=by rw [h2]
   rw [List.getElem?_map,List.getElem?_map,hj,Array.getElem?_toList] at e1
   cases he:es[j]? with
   | none=>rfl
   | some e=>rw [he] at e1;simp at e1;simp [e1]
  have hks:(Instr.keyThatStays (.string ⟨k.toArray⟩) (.string ⟨k.toArray⟩)).run P w = .ok (.string ⟨k.toArray⟩) w:=by
   have:((⟨k.toArray⟩:ByteArray) == ⟨k.toArray⟩) = true:=(MapKept.bytes_beq _ _).2 rfl
   simp [Instr.keyThatStays,Instr.sameBits,this]
  refine ⟨_,by simp [Instr.mapUpdate,run_underlying ht,MapKept.run_getObj_map h1,hc,MapKept.run_findKey hk hf,hkey,hks,MapKept.run_setObj_map _ h1,Result.andThen];rfl,?_,turned_setObj _ _ _⟩
  refine ⟨_,_,by show (w.heap.setIfInBounds b _)[b]? = _;rw [Array.getElem?_setIfInBounds,if_pos rfl,if_pos hb],?_⟩
  unfold upd
  rw [hl]
  apply List.ext_getElem?
  intro n
  have e1:(es.toList.map (fun e=>(e.key,e.val)))[n]? = (l.map (fun x=>(Value.string ⟨x.1.toArray⟩,x.2)))[n]?:=by rw [h2]
  rw [List.getElem?_map,List.getElem?_map,Array.getElem?_toList] at e1
  rw [List.getElem?_map,List.getElem?_map,Array.getElem?_toList,Array.getElem?_modify]
  by_cases hn:j = n
  ·subst hn
   rw [if_pos rfl,List.getElem?_set_self hjl]
   simp [hje]
  ·rw [if_neg hn,List.getElem?_set_ne hn]
   exact e1
end
abbrev setL (s:List Nm):List (Nm × Value):=s.map fun x=>(x,.bool true)
end Go.Proofs.YtmfpmandkhiknaaGreatDoor.maps
namespace Go.Proofs.YtmfpmandkhiknaaGreatDoor.chk
open Go.RowKit
open heap maps
open par (Nd KV Tr ndV ndC)
open lex (run_store_float)
open many (fnL fnT)
set_option maxRecDepth 100000
theorem wpList_insert {P:Program} {w:World} {ops:Array Oper} {rest:List Oper} {o:Oper} {a:Act} {Q:Exit → Act → World → Prop} {t kt et:TypeId} {m x y:Operand} {b:Nat} {l:List (Nm × Value)} {k:Nm} {v:Value} (hgd:o.guard = none)
  (ho:o.op = .insert t m x y) (ht:P.underlying t = some (.map kt et)) (hk:P.underlying kt = some .string) (hm:a.eval m = .map (some b)) (hx:a.eval x = .string ⟨k.toArray⟩) (hy:a.eval y = v) (h:MapS w b l)
  (hn:∀ w',MapS w' b (upd k v l) → Turned [b] w w' → wpList P ops Q rest (a.put o.dst undef) w'):wpList P ops Q (o :: rest) a w:=by
 refine wpList_plain hgd fun K hK => ?_
 obtain ⟨w',h1,h2,h3⟩:=run_update h ht hk k v
 unfold Oper.wp
 simp [execOp,ho,hm,hx,hy,h1,Result.andThen]
 exact hK _ _ (hn w' h2 h3)
theorem wpList_insert_new {P:Program} {w:World} {ops:Array Oper} {rest:List Oper} {o:Oper} {a:Act} {Q:Exit → Act → World → Prop} {t kt et:TypeId} {m x y:Operand} {b:Nat} {l:List (Nm × Value)} {k:Nm} {v:Value} (hgd:o.guard = none)
  (ho:o.op = .insert t m x y) (ht:P.underlying t = some (.map kt et)) (hk:P.underlying kt = some .string) (hm:a.eval m = .map (some b)) (hx:a.eval x = .string ⟨k.toArray⟩) (hy:a.eval y = v) (h:MapS w b l) (hf:(maps.look k l 0).isNone = true)
  (hn:∀ w',MapS w' b (l ++ [(k,v)]) → Turned [b] w w' → wpList P ops Q rest (a.put o.dst undef) w'):wpList P ops Q (o :: rest) a w:=by
 refine wpList_insert hgd ho ht hk hm hx hy h (fun w' h1 h2=>hn w' ?_ h2)
 unfold upd at h1
 cases hl:maps.look k l 0 with
 | none=>rw [hl] at h1;exact h1
 | some r=>rw [hl] at hf;exact absurd hf Bool.false_ne_true
theorem MapS.cast {w:World} {b:Nat} {l l':List (Nm × Value)} (h:MapS w b l) (e:l = l'):MapS w b l':=e ▸ h
def fnV:List (Nm × Value):=fnL.map fun x=>(x.1,.int .i64 x.2)
set_option maxHeartbeats 400000 in
theorem functions_any (w:World):Calls Tryz.prog 81 #[] w fun e w'=>∃ b,e = .returned (.map (some b)) ∧ MapS w' b fnV ∧ w.heap.size ≤ b ∧ Below w.heap.size w w':=by
 go_enter Tryz.func81,Tryz.ntmps81
 have HM:=Lib.hid (MapS.new w)
 have HB:Hid (Below w.heap.size w (w.alloc (.map #[] 0))):=(Below.refl _ _).alloc (Nat.le_refl _) _
 have hmm := @run_makeMap_plain Tryz.prog
 go_wp2_with (refine wpList_insert_new rfl rfl Tryz.underlying70 Tryz.underlying9 rfl rfl rfl HM.out (by kernel_rfl) ?_;intro w' hm' ht';clear HM;have HM:=Lib.hid hm';have hb':=HB.out.trans (ht'.below HB.out.size (by simp));clear HB;have HB:=Lib.hid hb';clear hm' ht' hb')
 go_ret
 exact ⟨_,rfl,MapS.cast HM.out (by kernel_rfl),Nat.le_refl _,HB.out⟩
end Go.Proofs.YtmfpmandkhiknaaGreatDoor.chk
namespace Go.Proofs.YtmfpmandkhiknaaGreatDoor.mapi
open Go Go.RowKit
open heap
def lookI (k:Int):List (Int × Value) → Nat → Option (Nat × Value)
 | [],_=>none
 | x :: r,i=>if k = x.1 then some (i,x.2) else lookI k r (i + 1)
def MapI (w:World) (b:Nat) (l:List (Int × Value)):Prop:=
 ∃ (es:Array MapEntry) (clock:Nat),w.heap[b]? = some (.map es clock) ∧ es.toList.map (fun e=>(e.key,e.val)) = l.map (fun x=>((.int .i64 x.1:Value),x.2))
theorem MapI.new (w:World):MapI (w.alloc (.map #[] 0)) w.heap.size []:=⟨#[],0,blk_new _ _,rfl⟩
theorem MapI.below {w w':World} {b:Nat} {l:List (Int × Value)} (h:MapI w b l) (hb:Below w.heap.size w w'):MapI w' b l:=by
 obtain ⟨es,c,h1,h2⟩:=h
 exact ⟨es,c,by rw [hb.block b (Array.getElem?_eq_some_iff.1 h1).1];exact h1,h2⟩
theorem find_i (k:Int):∀ (es:List MapEntry) (l:List (Int × Value)) (i:Nat),es.map (fun e=>(e.key,e.val)) = l.map (fun x=>((.int .i64 x.1:Value),x.2)) → Instr.findNow (.int .i64) (.int .i64 k) es i = some (lookI k l i)
 | [],[],i,_=>rfl
 | [],x :: l,i,h=>by simp at h
 | e :: es,[],i,h=>by simp at h
 | e :: es,x :: l,i,h=>by
  simp only [List.map_cons,List.cons.injEq,Prod.mk.injEq] at h
  obtain ⟨⟨h1,h2⟩,h3⟩:=h
  have ih:=find_i k es l (i + 1) h3
  rw [Instr.findNow,h1,lookI]
  by_cases hk:k = x.1
  ·have e1:Instr.sameNow (.int .i64) (.int .i64 k) (.int .i64 x.1) = some true:=by
    simp [Instr.sameNow,hk]
   rw [e1,if_pos hk,h2]
  ·have e1:Instr.sameNow (.int .i64) (.int .i64 k) (.int .i64 x.1) = some false:=by
    simp [Instr.sameNow,hk]
   rw [e1,if_neg hk]
   exact ih
section
variable {P:Program} {t kt et:TypeId}
theorem run_lookup_ok {w:World} {b:Nat} {l:List (Int × Value)} (h:MapI w b l) (ht:P.underlying t = some (.map kt et)) (hk:P.underlying kt = some (.int .i64)) (z:Value) (hz:(zeroValue et).run P w = .ok z w) (k:Int) :
  (Instr.lookup t (.map (some b)) (.int .i64 k) true).run P w = .ok (.tuple #[(lookI k l 0).map (·.2) |>.getD z,.bool (lookI k l 0).isSome]) w:=by
 obtain ⟨es,c,h1,h2⟩:=h
 have hc:∀ e,(Instr.checkKey e 10000 kt (.int .i64 k)).run P w = .ok () w:=fun e=>MapKept.run_checkKey (k:=.int .i64 k) hk (by simp [MapKept.IsKey]) e 9999
 have hf:=find_i k es.toList l 0 h2
 cases hl:lookI k l 0 with
 | none =>
  rw [hl] at hf
  simp [Instr.lookup,run_underlying ht,MapKept.run_getObj_map h1,hc,MapKept.run_findKey hk hf,hz,Result.andThen]
 | some r =>
  obtain ⟨j,v⟩:=r
  rw [hl] at hf
  simp [Instr.lookup,run_underlying ht,MapKept.run_getObj_map h1,hc,MapKept.run_findKey hk hf,Result.andThen]
theorem run_update_new {w:World} {b:Nat} {l:List (Int × Value)} (h:MapI w b l) (ht:P.underlying t = some (.map kt et)) (hk:P.underlying kt = some (.int .i64)) (k:Int) (v:Value) (hl:lookI k l 0 = none) :
  ∃ w',(Instr.mapUpdate t (.map (some b)) (.int .i64 k) v).run P w = .ok () w' ∧ MapI w' b (l ++ [(k,v)]) ∧ Turned [b] w w':=by
 obtain ⟨es,c,h1,h2⟩:=h
 have hb:b < w.heap.size:=(Array.getElem?_eq_some_iff.1 h1).1
 have hc:∀ e,(Instr.checkKey e 10000 kt (.int .i64 k)).run P w = .ok () w:=fun e=>MapKept.run_checkKey (k:=.int .i64 k) hk (by simp [MapKept.IsKey]) e 9999
 have hf:=find_i k es.toList l 0 h2
 rw [hl] at hf
 refine ⟨_,by simp [Instr.mapUpdate,run_underlying ht,MapKept.run_getObj_map h1,hc,MapKept.run_findKey hk hf,MapKept.run_setObj_map _ h1,Result.andThen];rfl,?_,maps.turned_setObj _ _ _⟩
 refine ⟨_,_,by show (w.heap.setIfInBounds b _)[b]? = _;rw [Array.getElem?_setIfInBounds,if_pos rfl,if_pos hb],?_⟩
 simp [h2]
end
theorem wpList_insert_new {P:Program} {w:World} {ops:Array Oper} {rest:List Oper} {o:Oper} {a:Act} {Q:Exit → Act → World → Prop} {t kt et:TypeId} {m x y:Operand} {b:Nat} {l:List (Int × Value)} {k:Int} {v:Value} (hgd:o.guard = none)
  (ho:o.op = .insert t m x y) (ht:P.underlying t = some (.map kt et)) (hk:P.underlying kt = some (.int .i64)) (hm:a.eval m = .map (some b)) (hx:a.eval x = .int .i64 k) (hy:a.eval y = v) (h:MapI w b l) (hf:(lookI k l 0).isNone = true)
  (hn:∀ w',MapI w' b (l ++ [(k,v)]) → Turned [b] w w' → wpList P ops Q rest (a.put o.dst undef) w'):wpList P ops Q (o :: rest) a w:=by
 refine wpList_plain hgd fun K hK => ?_
 obtain ⟨w',h1,h2,h3⟩:=run_update_new h ht hk k v (Option.isNone_iff_eq_none.1 hf)
 unfold Oper.wp
 simp [execOp,ho,hm,hx,hy,h1,Result.andThen]
 exact hK _ _ (hn w' h2 h3)
end Go.Proofs.YtmfpmandkhiknaaGreatDoor.mapi
