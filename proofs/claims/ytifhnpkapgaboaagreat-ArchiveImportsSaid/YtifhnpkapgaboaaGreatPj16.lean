/-
  Proved: what the document's reader's small functions do (fault, take, num, end). Conditions: as each theorem says.
  Proved: maps with keys that are texts: what they hold, read and written (plain). Conditions: as each theorem says. No program is in sight.
  Proved: maps with keys that are texts: no key twice, entries struck out, a loop over them that strikes some out (plain). Conditions: as each theorem says. No program is in sight.
-/
import Derived.Test.YtifhnpkapgaboaaGreatPj15
import Derived.BigQuiet
import Derived.WideMake
import Derived.MapKept
import Derived.Test.YtifhnpkapgaboaaGreatPj1
import Derived.Maps.RangeRun
set_option linter.unusedVariables false
set_option linter.unusedSimpArgs false
namespace Go.Proofs.YtifhnpkapgaboaaGreat.arch
open Go.RowKit
open heap
open path (sv str_size cleanB cleanR belowB)
set_option maxRecDepth 100000
abbrev RbO (s:Nm) (a:Nat) (c b:Int):Obj:=.cells #[.string ⟨s.toArray⟩,.int .i64 a,.int .i64 c,.int .i64 b] 93 (0,0)
def RbP (q:Nat) (s:Nm) (v:Value) (a:Nat) (c b:Int) (w:World) (e:Ending) (w':World):Prop:=e = .returned v ∧ w'.heap[q]? = some (RbO s a c b) ∧ Turned [q] w w'
theorem RbP.dead {q:Nat} {s:Nm} {v:Value} {a:Nat} {c b:Int} {w w':World} (h:w.heap[q]? = some (RbO s a c b)) (hb:Below w.heap.size w w'):RbP q s v a c b w (.returned v) w':=⟨rfl,blk_below h hb,Turned.of_below hb⟩
theorem fault_dead (q:Nat) (s:Nm) (a:Nat) (c b k t:Int) (w:World) (h:w.heap[q]? = some (RbO s a c b)) (hc:c ≠ 0) :
  Calls Tryz.prog 47 #[PP q,.int .i64 k,.int .i64 t] w (RbP q s (.tuple #[]) a c b w):=by
 have c2:=blk_cell h 2
 have hl:=blk_lt h
 simp only [List.getElem?_toArray,List.getElem?_cons_zero,List.getElem?_cons_succ] at c2
 have H:=Lib.hid h
 have d1:(c == 0) = false:=by rw [beq_eq_false_iff_ne];exact hc
 clear h hc
 go_enter Tryz.func47,Tryz.ntmps47
 go_wp2_with fail
 go_end0
 exact RbP.dead H.out (Below.refl _ _)
theorem fault_live (q:Nat) (s:Nm) (a:Nat) (b k t:Int) (w:World) (h:w.heap[q]? = some (RbO s a 0 b)) :
  Calls Tryz.prog 47 #[PP q,.int .i64 k,.int .i64 t] w (RbP q s (.tuple #[]) a k t w):=by
 have c2:=blk_cell h 2
 have c3:=blk_cell h 3
 have f2:=blk_free h 2
 have f3:=blk_free h 3
 have hl:=blk_lt h
 simp only [List.getElem?_toArray,List.getElem?_cons_zero,List.getElem?_cons_succ] at c2 c3
 have H:=Lib.hid h
 clear h
 go_enter Tryz.func47,Tryz.ntmps47
 go_wp2_with fail
 go_end0
 refine ⟨rfl,?_,((Turned.refl _ _).setCell (by simp) _).setCell (by simp) _⟩
 have h1:=blk_set H.out 2 (.int .i64 k)
 have h2:=blk_set h1 3 (.int .i64 t)
 rw [h2];rfl
theorem fault_zero (q:Nat) (s:Nm) (a:Nat) (b t:Int) (w:World) (h:w.heap[q]? = some (RbO s a 0 b)) :
  Calls Tryz.prog 47 #[PP q,.int .i64 0,.int .i64 t] w (RbP q s (.tuple #[]) a 0 t w):=fault_live q s a b 0 t w h
set_option maxHeartbeats 2000000 in
theorem rtake_dead (q:Nat) (s:Nm) (a:Nat) (c b k:Int) (w:World) (h:w.heap[q]? = some (RbO s a c b)) (hc:c ≠ 0) (hs:s.length ≤ 10000000) :
  Calls Tryz.prog 86 #[PP q,.int .i64 k] w (RbP q s (sv []) a c b w):=by
 have z:=str_size s
 have c0:=blk_cell h 0
 have c2:=blk_cell h 2
 have hl:=blk_lt h
 simp only [List.getElem?_toArray,List.getElem?_cons_zero,List.getElem?_cons_succ] at c0 c2
 have HF:=Lib.hid (fun W (hW:W.heap[q]? = some (RbO s a c b))=>fault_dead q s a c b 1300 s.length W hW hc)
 have H:=Lib.hid h
 have d1:(c != 0) = true:=by simp [bne,hc]
 clear h hc
 go_enter Tryz.func86,Tryz.ntmps86
 go_upto_region 1 with fail
 go_quiet (fail)
 have H2:=Lib.hid (blk_below H.out (below_drewN (Below.refl _ _) nq))
 have HT2:Hid (Below w.heap.size w (w.drewN nq)):=below_drewN (Below.refl _ _) _
 generalize (w.drewN nq) = w2 at *
 clear c0 c2 hl
 have c0:=blk_cell H2.out 0
 have hl:=blk_lt H2.out
 simp only [List.getElem?_toArray,List.getElem?_cons_zero,List.getElem?_cons_succ] at c0
 go_wp2_with fail
 refine (HF.out _ H2.out).mono ?_;rintro e w3 ⟨rfl,hq,ht⟩
 have HQ:=Lib.hid hq
 have HT3:=Lib.hid ht
 clear hq ht
 go_wp2_with fail
 go_ret
 exact ⟨rfl,HQ.out,(Turned.of_below HT2.out).trans HT3.out⟩
set_option maxHeartbeats 2000000 in
theorem rtake_short (q:Nat) (s:Nm) (a:Nat) (b:Int) (n:Nat) (w:World) (h:w.heap[q]? = some (RbO s a 0 b)) (ha:a ≤ s.length) (hs:s.length ≤ 10000000) (hn:s.length < a + n) :
  Calls Tryz.prog 86 #[PP q,.int .i64 n] w (RbP q s (sv []) a 1300 s.length w):=by
 have z:=str_size s
 have c0:=blk_cell h 0
 have c1:=blk_cell h 1
 have c2:=blk_cell h 2
 have hl:=blk_lt h
 simp only [List.getElem?_toArray,List.getElem?_cons_zero,List.getElem?_cons_succ] at c0 c1 c2
 have HF:=Lib.hid (fun W (hW:W.heap[q]? = some (RbO s a 0 b))=>fault_live q s a b 1300 s.length W hW)
 have H:=Lib.hid h
 have hw1:IntKind.i64.wrap ((s.length:Int) - (a:Int)) = (s.length:Int) - (a:Int):=IntWalk.i64_in _ (by omega)
 have d1:decide ((s.length:Int) - (a:Int) < (n:Int)) = true:=decide_eq_true (by omega)
 clear h hn ha
 go_enter Tryz.func86,Tryz.ntmps86
 go_upto_region 1 with fail
 go_quiet (fail)
 have H2:=Lib.hid (blk_below H.out (below_drewN (Below.refl _ _) nq))
 have HT2:Hid (Below w.heap.size w (w.drewN nq)):=below_drewN (Below.refl _ _) _
 generalize (w.drewN nq) = w2 at *
 clear c0 c1 c2 hl
 have c0:=blk_cell H2.out 0
 have hl:=blk_lt H2.out
 simp only [List.getElem?_toArray,List.getElem?_cons_zero,List.getElem?_cons_succ] at c0
 go_wp2_with fail
 refine (HF.out _ H2.out).mono ?_;rintro e w3 ⟨rfl,hq,ht⟩
 have HQ:=Lib.hid hq
 have HT3:=Lib.hid ht
 clear hq ht
 go_wp2_with fail
 go_ret
 exact ⟨rfl,HQ.out,(Turned.of_below HT2.out).trans HT3.out⟩
set_option maxHeartbeats 2000000 in
theorem rtake_ok (q:Nat) (s:Nm) (a:Nat) (b:Int) (n:Nat) (w:World) (h:w.heap[q]? = some (RbO s a 0 b)) (hs:s.length ≤ 10000000) (hn:a + n ≤ s.length) :
  Calls Tryz.prog 86 #[PP q,.int .i64 n] w (RbP q s (sv (sub s a n)) (a + n) 0 b w):=by
 have z:=str_size s
 have c0:=blk_cell h 0
 have c1:=blk_cell h 1
 have c2:=blk_cell h 2
 have hl:=blk_lt h
 simp only [List.getElem?_toArray,List.getElem?_cons_zero,List.getElem?_cons_succ] at c0 c1 c2
 have H:=Lib.hid h
 have hw1:IntKind.i64.wrap ((s.length:Int) - (a:Int)) = (s.length:Int) - (a:Int):=IntWalk.i64_in _ (by omega)
 have hw2:IntKind.i64.wrap ((a:Int) + (n:Int)) = (a:Int) + (n:Int):=IntWalk.i64_in _ (by omega)
 have d1:decide ((s.length:Int) - (a:Int) < (n:Int)) = false:=decide_eq_false (by omega)
 have hex:(⟨s.toArray⟩:ByteArray).extract a (a + n) = ⟨(sub s a n).toArray⟩:=by rw [path.cut_str,Nat.add_sub_cancel_left];rfl
 have hi1:(a:Int) ≤ (a:Int) + (n:Int):=by omega
 have hi2:(a:Int) + (n:Int) ≤ (s.length:Int):=by omega
 have hi3:a ≤ a + n:=by omega
 have hi4:a + n ≤ s.length:=by omega
 have hi5:(0:Int) ≤ (a:Int) + (n:Int):=by omega
 have hi6:((a:Int) + (n:Int)).toNat = a + n:=by omega
 clear h
 go_enter Tryz.func86,Tryz.ntmps86
 go_upto_region 1 with fail
 go_quiet (fail)
 have H2:=Lib.hid (blk_below H.out (below_drewN (Below.refl _ _) nq))
 have HT2:Hid (Below w.heap.size w (w.drewN nq)):=below_drewN (Below.refl _ _) _
 generalize (w.drewN nq) = w2 at *
 clear c0 c1 c2 hl
 have c0:=blk_cell H2.out 0
 have c1:=blk_cell H2.out 1
 have hl:=blk_lt H2.out
 simp only [List.getElem?_toArray,List.getElem?_cons_zero,List.getElem?_cons_succ] at c0 c1
 go_upto_region 4 with fail
 go_quiet (fail)
 have H3:=Lib.hid (blk_below H2.out (below_drewN (Below.refl _ _) nq))
 have HT3:Hid (Below w.heap.size w (w2.drewN nq)):=below_drewN HT2.out _
 generalize (w2.drewN nq) = w3 at *
 clear c0 c1 hl
 have c1:=blk_cell H3.out 1
 have f1:=blk_free H3.out 1
 have hl:=blk_lt H3.out
 simp only [List.getElem?_toArray,List.getElem?_cons_zero,List.getElem?_cons_succ] at c1
 go_wp2_with fail
 go_ret
 refine ⟨rfl,?_,(Turned.of_below HT3.out).setCell (by simp) _⟩
 have:=blk_set H3.out 1 (.int .i64 ((a:Int) + (n:Int)))
 rw [this];rfl
theorem rnum_dead (q:Nat) (s:Nm) (a:Nat) (c b k:Int) (w:World) (h:w.heap[q]? = some (RbO s a c b)) (hc:c ≠ 0) (hs:s.length ≤ 10000000) :
  Calls Tryz.prog 46 #[PP q,.int .i64 k] w (RbP q s (.int .i64 0) a c b w):=by
 have HT:=Lib.hid (rtake_dead q s a c b k w h hc hs)
 have HOF:=Lib.hid (fun W=>num.rOfLe_any ⟨([]:Nm).toArray⟩ W (by decide))
 rw [show num.ofLeV ⟨([]:Nm).toArray⟩ = 0 from rfl] at HOF
 clear h hc
 go_enter Tryz.func46,Tryz.ntmps46
 go_wp2_with fail
 refine HT.out.mono ?_;rintro e w1 ⟨rfl,hq,ht⟩
 have HQ:=Lib.hid (And.intro hq ht)
 clear hq ht HT
 go_wp2_with fail
 refine (HOF.out _).mono ?_;rintro e w' ⟨rfl,rfl⟩
 go_wp2_with fail
 go_ret
 exact ⟨rfl,HQ.out.1,HQ.out.2⟩
theorem rnum_short (q:Nat) (s:Nm) (a:Nat) (b:Int) (n:Nat) (w:World) (h:w.heap[q]? = some (RbO s a 0 b)) (ha:a ≤ s.length) (hs:s.length ≤ 10000000) (hn:s.length < a + n) :
  Calls Tryz.prog 46 #[PP q,.int .i64 n] w (RbP q s (.int .i64 0) a 1300 s.length w):=by
 have HT:=Lib.hid (rtake_short q s a b n w h ha hs hn)
 have HOF:=Lib.hid (fun W=>num.rOfLe_any ⟨([]:Nm).toArray⟩ W (by decide))
 rw [show num.ofLeV ⟨([]:Nm).toArray⟩ = 0 from rfl] at HOF
 clear h hn
 go_enter Tryz.func46,Tryz.ntmps46
 go_wp2_with fail
 refine HT.out.mono ?_;rintro e w1 ⟨rfl,hq,ht⟩
 have HQ:=Lib.hid (And.intro hq ht)
 clear hq ht HT
 go_wp2_with fail
 refine (HOF.out _).mono ?_;rintro e w' ⟨rfl,rfl⟩
 go_wp2_with fail
 go_ret
 exact ⟨rfl,HQ.out.1,HQ.out.2⟩
theorem rnum_ok (q:Nat) (s:Nm) (a:Nat) (b:Int) (n:Nat) (w:World) (h:w.heap[q]? = some (RbO s a 0 b)) (hs:s.length ≤ 10000000) (hn1:n = 1 ∨ n = 2) (hn:a + n ≤ s.length) :
  Calls Tryz.prog 46 #[PP q,.int .i64 n] w (RbP q s (.int .i64 (numV s a n)) (a + n) 0 b w):=by
 have HT:=Lib.hid (rtake_ok q s a b n w h hs hn)
 have HOF:=Lib.hid (fun W=>num.rOfLe_any ⟨(sub s a n).toArray⟩ W (by rw [str_size];unfold sub maxLen;rw [List.length_take];omega))
 rw [of_sub s a n hn1 (by omega)] at HOF
 have hl:=numV_lt s a n
 have hw:IntKind.i64.wrap (numV s a n:Int) = (numV s a n:Int):=IntWalk.i64_in _ (by omega)
 generalize numV s a n = v at *
 clear h hn hn1
 go_enter Tryz.func46,Tryz.ntmps46
 go_wp2_with fail
 refine HT.out.mono ?_;rintro e w1 ⟨rfl,hq,ht⟩
 have HQ:=Lib.hid (And.intro hq ht)
 clear hq ht HT
 go_wp2_with fail
 refine (HOF.out _).mono ?_;rintro e w' ⟨rfl,rfl⟩
 go_wp2_with fail
 go_ret
 exact ⟨rfl,HQ.out.1,HQ.out.2⟩
end Go.Proofs.YtifhnpkapgaboaaGreat.arch
namespace Go.Proofs.YtifhnpkapgaboaaGreat.maps
open Go.RowKit
open heap
abbrev Nm:=List UInt8
def look (k:Nm):List (Nm × Value) → Nat → Option (Nat × Value)
 | [],_=>none
 | x :: r,i=>if k = x.1 then some (i,x.2) else look k r (i + 1)
def MapS (w:World) (b:Nat) (l:List (Nm × Value)):Prop:=
 ∃ (es:Array MapEntry) (clock:Nat),w.heap[b]? = some (.map es clock) ∧ es.toList.map (fun e=>(e.key,e.val)) = l.map (fun x=>(Value.string ⟨x.1.toArray⟩,x.2))
theorem MapS.lt {w:World} {b:Nat} {l:List (Nm × Value)} (h:MapS w b l):b < w.heap.size:=by
 obtain ⟨es,c,h1,_⟩:=h
 exact (Array.getElem?_eq_some_iff.1 h1).1
theorem MapS.kept {w w':World} {b:Nat} {l:List (Nm × Value)} (h:MapS w b l) (hk:w'.heap[b]? = w.heap[b]?):MapS w' b l:=by
 obtain ⟨es,c,h1,h2⟩:=h
 exact ⟨es,c,by rw [hk];exact h1,h2⟩
theorem MapS.turned {w w':World} {b:Nat} {l:List (Nm × Value)} {S:List Nat} (h:MapS w b l) (ht:Turned S w w') (hb:b ∉ S):MapS w' b l:=h.kept (ht.block b h.lt hb)
theorem MapS.new (w:World):MapS (w.alloc (.map #[] 0)) w.heap.size []:=⟨#[],0,blk_new _ _,rfl⟩
theorem str_inj {a b:Nm}:((⟨a.toArray⟩:ByteArray) = ⟨b.toArray⟩) ↔ a = b:=by
 constructor
 ·intro h
  have:=congrArg (fun x:ByteArray=>x.data.toList) h
  simpa using this
 ·rintro rfl;rfl
theorem find_s (k:Nm):∀ (es:List MapEntry) (l:List (Nm × Value)) (i:Nat),es.map (fun e=>(e.key,e.val)) = l.map (fun x=>(Value.string ⟨x.1.toArray⟩,x.2)) → Instr.findNow .string (.string ⟨k.toArray⟩) es i = some (look k l i)
 | [],[],i,_=>rfl
 | [],x :: l,i,h=>by simp at h
 | e :: es,[],i,h=>by simp at h
 | e :: es,x :: l,i,h=>by
  simp only [List.map_cons,List.cons.injEq,Prod.mk.injEq] at h
  obtain ⟨⟨h1,h2⟩,h3⟩:=h
  have ih:=find_s k es l (i + 1) h3
  rw [Instr.findNow,h1,look]
  by_cases hk:k = x.1
  ·have e1:Instr.sameNow .string (.string ⟨k.toArray⟩) (.string ⟨x.1.toArray⟩) = some true:=by
    simp only [Instr.sameNow]
    congr 1
    rw [MapKept.bytes_beq,hk]
   rw [e1,if_pos hk,h2]
  ·have e1:Instr.sameNow .string (.string ⟨k.toArray⟩) (.string ⟨x.1.toArray⟩) = some false:=by
    simp only [Instr.sameNow]
    congr 1
    rw [Bool.eq_false_iff]
    exact fun e=>hk (str_inj.1 ((MapKept.bytes_beq _ _).1 e))
   rw [e1,if_neg hk]
   exact ih
section
variable {P:Program} {t kt et:TypeId}
theorem run_lookup {w:World} {b:Nat} {l:List (Nm × Value)} (h:MapS w b l) (ht:P.underlying t = some (.map kt et)) (hk:P.underlying kt = some .string) (z:Value) (hz:(zeroValue et).run P w = .ok z w) (k:Nm) :
  (Instr.lookup t (.map (some b)) (.string ⟨k.toArray⟩) false).run P w = .ok ((look k l 0).map (·.2) |>.getD z) w:=by
 obtain ⟨es,c,h1,h2⟩:=h
 have hc:∀ e,(Instr.checkKey e 10000 kt (.string ⟨k.toArray⟩)).run P w = .ok () w:=fun e=>MapKept.run_checkKey (k:=.string ⟨k.toArray⟩) hk (by simp [MapKept.IsKey]) e 9999
 have hf:=find_s k es.toList l 0 h2
 cases hl:look k l 0 with
 | none =>
  rw [hl] at hf
  simp [Instr.lookup,run_underlying ht,MapKept.run_getObj_map h1,hc,MapKept.run_findKey hk hf,hz,Result.andThen]
 | some r =>
  obtain ⟨j,v⟩:=r
  rw [hl] at hf
  simp [Instr.lookup,run_underlying ht,MapKept.run_getObj_map h1,hc,MapKept.run_findKey hk hf,Result.andThen]
theorem run_lookup_ok {w:World} {b:Nat} {l:List (Nm × Value)} (h:MapS w b l) (ht:P.underlying t = some (.map kt et)) (hk:P.underlying kt = some .string) (z:Value) (hz:(zeroValue et).run P w = .ok z w) (k:Nm) :
  (Instr.lookup t (.map (some b)) (.string ⟨k.toArray⟩) true).run P w = .ok (.tuple #[(look k l 0).map (·.2) |>.getD z,.bool (look k l 0).isSome]) w:=by
 obtain ⟨es,c,h1,h2⟩:=h
 have hc:∀ e,(Instr.checkKey e 10000 kt (.string ⟨k.toArray⟩)).run P w = .ok () w:=fun e=>MapKept.run_checkKey (k:=.string ⟨k.toArray⟩) hk (by simp [MapKept.IsKey]) e 9999
 have hf:=find_s k es.toList l 0 h2
 cases hl:look k l 0 with
 | none =>
  rw [hl] at hf
  simp [Instr.lookup,run_underlying ht,MapKept.run_getObj_map h1,hc,MapKept.run_findKey hk hf,hz,Result.andThen]
 | some r =>
  obtain ⟨j,v⟩:=r
  rw [hl] at hf
  simp [Instr.lookup,run_underlying ht,MapKept.run_getObj_map h1,hc,MapKept.run_findKey hk hf,Result.andThen]
def upd (k:Nm) (v:Value) (l:List (Nm × Value)):List (Nm × Value):=match look k l 0 with
 | some (j,_)=>l.set j (k,v)
 | none=>l ++ [(k,v)]
theorem look_at {k:Nm}:∀ {l:List (Nm × Value)} {i j:Nat} {v:Value},look k l i = some (j,v) → i ≤ j ∧ l[j - i]? = some (k,v)
 | [],i,j,v,h=>by simp [look] at h
 | x :: l,i,j,v,h=>by
  rw [look] at h
  split at h
  ·rename_i hk
   simp only [Option.some.injEq,Prod.mk.injEq] at h
   obtain ⟨rfl,rfl⟩:=h
   refine ⟨Nat.le_refl _,?_⟩
   simp [hk]
  ·obtain ⟨h1,h2⟩:=look_at h
   refine ⟨by omega,?_⟩
   rw [show j - i = (j - (i + 1)) + 1 by omega]
   simpa using h2
theorem turned_setObj (w:World) (b:Nat) (o:Obj):Turned [b] w { w with heap:=w.heap.setIfInBounds b o }:=by
 refine ⟨rfl,rfl,rfl,by simp,fun k hk hn => ?_⟩
 show (w.heap.setIfInBounds b o)[k]? = _
 rw [Array.getElem?_setIfInBounds]
 rw [if_neg (by simp at hn;exact fun e=>hn e.symm)]
theorem run_update {w:World} {b:Nat} {l:List (Nm × Value)} (h:MapS w b l) (ht:P.underlying t = some (.map kt et)) (hk:P.underlying kt = some .string) (k:Nm) (v:Value) :
  ∃ w',(Instr.mapUpdate t (.map (some b)) (.string ⟨k.toArray⟩) v).run P w = .ok () w' ∧ MapS w' b (upd k v l) ∧ Turned [b] w w':=by
 obtain ⟨es,c,h1,h2⟩:=h
 have hb:b < w.heap.size:=(Array.getElem?_eq_some_iff.1 h1).1
 have hc:∀ e,(Instr.checkKey e 10000 kt (.string ⟨k.toArray⟩)).run P w = .ok () w:=fun e=>MapKept.run_checkKey (k:=.string ⟨k.toArray⟩) hk (by simp [MapKept.IsKey]) e 9999
 have hf:=find_s k es.toList l 0 h2
 cases hl:look k l 0 with
 | none =>
  rw [hl] at hf
  refine ⟨_,by simp [Instr.mapUpdate,run_underlying ht,MapKept.run_getObj_map h1,hc,MapKept.run_findKey hk hf,MapKept.run_setObj_map _ h1,Result.andThen];rfl,?_,turned_setObj _ _ _⟩
  refine ⟨_,_,by show (w.heap.setIfInBounds b _)[b]? = _;rw [Array.getElem?_setIfInBounds,if_pos rfl,if_pos hb],?_⟩
  unfold upd
  rw [hl]
  simp [h2]
 | some r =>
  obtain ⟨j,u⟩:=r
  rw [hl] at hf
  obtain ⟨-,hj⟩:=look_at hl
  rw [Nat.sub_zero] at hj
  have hj2:es.toList.length = l.length:=by simpa using congrArg List.length h2
  have hjl:j < l.length:=(List.getElem?_eq_some_iff.1 hj).1
  have hje:j < es.size:=by simpa [← hj2] using hjl
  have hkey:(es[j]?.map (·.key)).getD (.string ⟨k.toArray⟩) = .string ⟨k.toArray⟩:=by
   have e1:(es.toList.map (fun e=>(e.key,e.val)))[j]? = (l.map (fun x=>(Value.string ⟨x.1.toArray⟩,x.2)))[j]?:=by rw [h2]
   rw [List.getElem?_map,List.getElem?_map,hj,Array.getElem?_toList] at e1
   cases he:es[j]? with
   | none=>rfl
   | some e=>rw [he] at e1;simp at e1;simp [e1]
  have hks:(Instr.keyThatStays (.string ⟨k.toArray⟩) (.string ⟨k.toArray⟩)).run P w = .ok (.string ⟨k.toArray⟩) w:=by
   have:((⟨k.toArray⟩:ByteArray) == ⟨k.toArray⟩) = true:=(MapKept.bytes_beq _ _).2 rfl
   simp [Instr.keyThatStays,Instr.sameBits,this]
  refine ⟨_,by simp [Instr.mapUpdate,run_underlying ht,MapKept.run_getObj_map h1,hc,MapKept.run_findKey hk hf,hkey,hks,MapKept.run_setObj_map _ h1,Result.andThen];rfl,?_,turned_setObj _ _ _⟩
  refine ⟨_,_,by show (w.heap.setIfInBounds b _)[b]? = _;rw [Array.getElem?_setIfInBounds,if_pos rfl,if_pos hb],?_⟩
  unfold upd
  rw [hl]
  apply List.ext_getElem?
  intro n
  have e1:(es.toList.map (fun e=>(e.key,e.val)))[n]? = (l.map (fun x=>(Value.string ⟨x.1.toArray⟩,x.2)))[n]?:=by rw [h2]
  rw [List.getElem?_map,List.getElem?_map,Array.getElem?_toList] at e1
  rw [List.getElem?_map,List.getElem?_map,Array.getElem?_toList,Array.getElem?_modify]
  by_cases hn:j = n
  ·subst hn
   rw [if_pos rfl,List.getElem?_set_self hjl]
   simp [hje]
  ·rw [if_neg hn,List.getElem?_set_ne hn]
   exact e1
end
def MapC (es:Array MapEntry) (clock:Nat) (l:List (Nm × Value)):Prop:=
 es.toList.map (fun e=>(e.key,e.val)) = l.map (fun x=>(Value.string ⟨x.1.toArray⟩,x.2)) ∧ (l.map (·.1)).Nodup ∧ (es.toList.map (·.born)).Nodup ∧ ∀ e ∈ es.toList,e.born < clock
def MapB (w:World) (b:Nat) (l:List (Nm × Value)):Prop:=∃ (es:Array MapEntry) (clock:Nat),w.heap[b]? = some (.map es clock) ∧ MapC es clock l
theorem MapB.s {w:World} {b:Nat} {l:List (Nm × Value)} (h:MapB w b l):MapS w b l:=by
 obtain ⟨es,c,h1,h2,-⟩:=h
 exact ⟨es,c,h1,h2⟩
theorem MapB.lt {w:World} {b:Nat} {l:List (Nm × Value)} (h:MapB w b l):b < w.heap.size:=h.s.lt
theorem MapB.nodup {w:World} {b:Nat} {l:List (Nm × Value)} (h:MapB w b l):(l.map (·.1)).Nodup:=by
 obtain ⟨es,c,h1,h2,h3,-⟩:=h
 exact h3
theorem MapB.kept {w w':World} {b:Nat} {l:List (Nm × Value)} (h:MapB w b l) (hk:w'.heap[b]? = w.heap[b]?):MapB w' b l:=by
 obtain ⟨es,c,h1,h2⟩:=h
 exact ⟨es,c,hk.trans h1,h2⟩
theorem MapB.turned {w w':World} {b:Nat} {l:List (Nm × Value)} {S:List Nat} (h:MapB w b l) (ht:Turned S w w') (hb:b ∉ S):MapB w' b l:=h.kept (ht.block b h.lt hb)
theorem MapB.below {w w':World} {b:Nat} {l:List (Nm × Value)} (h:MapB w b l) (hb:Below w.heap.size w w'):MapB w' b l:=h.kept (hb.block b h.lt)
theorem MapB.new (w:World):MapB (w.alloc (.map #[] 0)) w.heap.size []:=⟨#[],0,blk_new _ _,rfl,List.nodup_nil,List.nodup_nil,fun e h=>by cases h⟩
def del (k:Nm) (l:List (Nm × Value)):List (Nm × Value):=l.filter fun x=>decide (x.1 ≠ k)
theorem look_none {k:Nm}:∀ {l:List (Nm × Value)} {i:Nat},look k l i = none → ∀ x ∈ l,x.1 ≠ k
 | [],i,_,x,h=>by cases h
 | y :: l,i,h,x,hx=>by
  rw [look] at h
  split at h
  ·cases h
  ·rename_i hk
   rcases List.mem_cons.1 hx with rfl | hx
   ·exact fun e=>hk e.symm
   ·exact look_none h x hx
theorem upd_keys (k:Nm) (v:Value) (l:List (Nm × Value)) (h:(l.map (·.1)).Nodup):((upd k v l).map (·.1)).Nodup:=by
 unfold upd
 cases hl:look k l 0 with
 | none =>
  simp only [List.map_append,List.map_cons,List.map_nil]
  rw [List.nodup_append]
  refine ⟨h,by simp,fun a ha b hb => ?_⟩
  simp only [List.mem_singleton] at hb
  subst hb
  obtain ⟨x,hx,rfl⟩:=List.mem_map.1 ha
  exact look_none hl x hx
 | some r =>
  obtain ⟨j,u⟩:=r
  obtain ⟨-,hj⟩:=look_at hl
  rw [Nat.sub_zero] at hj
  simp only
  rw [List.map_set]
  have:(l.map (·.1)).set j k = l.map (·.1):=by
   apply List.ext_getElem?
   intro n
   by_cases hn:j = n
   ·subst hn
    rw [List.getElem?_set_self (by simpa using (List.getElem?_eq_some_iff.1 hj).1),List.getElem?_map,hj]
    rfl
   ·rw [List.getElem?_set_ne hn]
  rw [this]
  exact h
section
variable {P:Program} {t kt et:TypeId}
theorem run_updateB {w:World} {b:Nat} {l:List (Nm × Value)} (h:MapB w b l) (ht:P.underlying t = some (.map kt et)) (hk:P.underlying kt = some .string) (k:Nm) (v:Value) :
  ∃ w',(Instr.mapUpdate t (.map (some b)) (.string ⟨k.toArray⟩) v).run P w = .ok () w' ∧ MapB w' b (upd k v l) ∧ Turned [b] w w':=by
 obtain ⟨es,c,h1,h2,h3,h4,h5⟩:=h
 have hb:b < w.heap.size:=(Array.getElem?_eq_some_iff.1 h1).1
 obtain ⟨w',hr,⟨es',c',g1,g2⟩,ht'⟩:=run_update (P:=P) (t:=t) (kt:=kt) (et:=et) ⟨es,c,h1,h2⟩ ht hk k v
 refine ⟨w',hr,⟨es',c',g1,g2,upd_keys k v l h3,?_⟩,ht'⟩
 have hc:∀ e,(Instr.checkKey e 10000 kt (.string ⟨k.toArray⟩)).run P w = .ok () w:=fun e=>MapKept.run_checkKey (k:=.string ⟨k.toArray⟩) hk (by simp [MapKept.IsKey]) e 9999
 have hf:=find_s k es.toList l 0 h2
 cases hl:look k l 0 with
 | none =>
  rw [hl] at hf
  have hr2:(Instr.mapUpdate t (.map (some b)) (.string ⟨k.toArray⟩) v).run P w = .ok () { w with heap:=w.heap.setIfInBounds b (.map (es.push { key:=.string ⟨k.toArray⟩,val:=v,born:=c }) (c + 1)) }:=by
   simp [Instr.mapUpdate,run_underlying ht,MapKept.run_getObj_map h1,hc,MapKept.run_findKey hk hf,MapKept.run_setObj_map _ h1,Result.andThen]
  rw [hr] at hr2
  simp only [Result.ok.injEq,true_and] at hr2
  subst hr2
  have g3:(w.heap.setIfInBounds b (.map (es.push { key:=.string ⟨k.toArray⟩,val:=v,born:=c }) (c + 1)))[b]? = some (.map es' c'):=g1
  rw [Array.getElem?_setIfInBounds,if_pos rfl,if_pos hb] at g3
  simp only [Option.some.injEq,Obj.map.injEq] at g3
  obtain ⟨rfl,rfl⟩:=g3
  simp only [Array.toList_push,List.map_append,List.map_cons,List.map_nil]
  refine ⟨?_,fun e he => ?_⟩
  ·rw [List.nodup_append]
   refine ⟨h4,by simp,fun a ha b hb => ?_⟩
   simp only [List.mem_singleton] at hb
   subst hb
   obtain ⟨x,hx,rfl⟩:=List.mem_map.1 ha
   exact Nat.ne_of_lt (h5 x hx)
  ·rcases List.mem_append.1 he with he | he
   ·have:=h5 e he;omega
   ·simp only [List.mem_singleton] at he
    subst he
    exact Nat.lt_succ_self _
 | some r =>
  obtain ⟨j,u⟩:=r
  rw [hl] at hf
  have hks:∀ q,(Instr.keyThatStays q (.string ⟨k.toArray⟩)).run P w = .ok (.string ⟨k.toArray⟩) w ∨ True:=fun _=>.inr trivial
  obtain ⟨-,hj⟩:=look_at hl
  rw [Nat.sub_zero] at hj
  have hj2:es.toList.length = l.length:=by simpa using congrArg List.length h2
  have hjl:j < l.length:=(List.getElem?_eq_some_iff.1 hj).1
  have hje:j < es.size:=by simpa [← hj2] using hjl
  have hkey:(es[j]?.map (·.key)).getD (.string ⟨k.toArray⟩) = .string ⟨k.toArray⟩:=by
   have e1:(es.toList.map (fun e=>(e.key,e.val)))[j]? = (l.map (fun x=>(Value.string ⟨x.1.toArray⟩,x.2)))[j]?:=by rw [h2]
   rw [List.getElem?_map,List.getElem?_map,hj,Array.getElem?_toList] at e1
   cases he:es[j]? with
   | none=>rfl
   | some e=>rw [he] at e1;simp at e1;simp [e1]
  have hks:(Instr.keyThatStays (.string ⟨k.toArray⟩) (.string ⟨k.toArray⟩)).run P w = .ok (.string ⟨k.toArray⟩) w:=by
   have:((⟨k.toArray⟩:ByteArray) == ⟨k.toArray⟩) = true:=(MapKept.bytes_beq _ _).2 rfl
   simp [Instr.keyThatStays,Instr.sameBits,this]
  have hr2:(Instr.mapUpdate t (.map (some b)) (.string ⟨k.toArray⟩) v).run P w = .ok () { w with heap:=w.heap.setIfInBounds b (.map (es.modify j fun e => { e with key:=.string ⟨k.toArray⟩,val:=v }) c) }:=by
   simp [Instr.mapUpdate,run_underlying ht,MapKept.run_getObj_map h1,hc,MapKept.run_findKey hk hf,hkey,hks,MapKept.run_setObj_map _ h1,Result.andThen]
  rw [hr] at hr2
  simp only [Result.ok.injEq,true_and] at hr2
  subst hr2
  have g3:(w.heap.setIfInBounds b (.map (es.modify j fun e => { e with key:=.string ⟨k.toArray⟩,val:=v }) c))[b]? = some (.map es' c'):=g1
  rw [Array.getElem?_setIfInBounds,if_pos rfl,if_pos hb] at g3
  simp only [Option.some.injEq,Obj.map.injEq] at g3
  obtain ⟨rfl,rfl⟩:=g3
  have hborn:(es.modify j fun e => { e with key:=.string ⟨k.toArray⟩,val:=v }).toList.map (·.born) = es.toList.map (·.born):=by
   apply List.ext_getElem?
   intro n
   rw [List.getElem?_map,List.getElem?_map,Array.getElem?_toList,Array.getElem?_toList,Array.getElem?_modify]
   split
   ·cases es[n]? <;> rfl
   ·rfl
  rw [hborn]
  refine ⟨h4,fun e he => ?_⟩
  have hm:e.born ∈ es.toList.map (·.born):=by rw [← hborn];exact List.mem_map_of_mem he
  obtain ⟨x,hx,he⟩:=List.mem_map.1 hm
  have:=h5 x hx
  omega
end
end Go.Proofs.YtifhnpkapgaboaaGreat.maps
