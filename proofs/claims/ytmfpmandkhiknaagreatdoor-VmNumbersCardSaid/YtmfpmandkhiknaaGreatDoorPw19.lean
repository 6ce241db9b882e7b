/-
  Proved: what the machine does of an instruction: the operators of one value, the skip, the failure. Conditions: as each theorem says.
  Proved: what the machine does of an instruction: the sign, the variables. Conditions: as each theorem says.
  Proved: what the machine does of an instruction: its variables. Conditions: as each theorem says.
-/
import Derived.Test.YtmfpmandkhiknaaGreatDoorPw18
set_option linter.unusedVariables false
set_option linter.unusedSimpArgs false
namespace Go.Proofs.YtmfpmandkhiknaaGreatDoor.vmm
open Go Go.RowKit Ieee
open flt heap
open lex (run_store_float add0)
set_option maxRecDepth 100000
attribute [local go_sem] run_store_float
theorem resp_of {X Y:Except Bad Mac} {f:FuncId} {xs:Array Value} {p:Nat} {m:Mac} {cv sv:Value} {V:Vs} {C:Is} {w:World} (e:X = Y) (h:Calls Tryz.prog f xs w (ResP X p m cv sv V C w)):Calls Tryz.prog f xs w (ResP Y p m cv sv V C w):=e ▸ h
theorem truth_is {c:Val} {r:Nat} {b:Bool} (W:World) (h:NumOk c r) (ht:truth c = b):Calls Tryz.prog 86 #[vV c.isT c.text r] W fun e w'=>e = .returned (.bool b) ∧ Below W.heap.size W w':=by
 have:=truth_any c r W h
 rw [ht] at this
 exact this
set_option maxHeartbeats 4000000 in
theorem do_skip (p:Nat) (m:Mac) (cv sv:Value) (V L:Vs) (C:Is) (arg:Int) (num:Nat) (t:List UInt8) (r:Nat) (w:World) (h:MA w p m cv sv V L C) (hs:L.map (·.1) = m.stack) :
  Calls Tryz.prog 61 #[.pointer (some ⟨p,0,none⟩),iV ⟨⟨16,arg,num,t⟩,r⟩] w (ResP (match popM m 1 with | .error e=>.error e | .ok (vs,m)=>.ok (if truth (vs.headD zeroV) then m else { m with pc:=arg })) p m cv sv V C w):=by
 rw [popM_1]
 have HM:=Lib.hid h
 have HS:=Lib.hid hs
 clear h hs
 cases hp1:pop1M m with
 | none =>
  go_enter Tryz.func61,Tryz.ntmps61
  go_upto_region 1 with fail
  have hb1:=blk_new w (iO ⟨⟨16,arg,num,t⟩,r⟩)
  have HB1:Hid (Below w.heap.size w (w.alloc (iO ⟨⟨16,arg,num,t⟩,r⟩))):=(Below.refl _ _).alloc (Nat.le_refl _) _
  have HM1:=Lib.hid (HM.out.below HB1.out)
  change Code.wp _ _ _ _ (w.alloc (iO ⟨⟨16,arg,num,t⟩,r⟩))
  generalize w.alloc (iO ⟨⟨16,arg,num,t⟩,r⟩) = w1 at *
  have x0:=blk_cell (hb1) 0
  have x1:=blk_cell (hb1) 1
  have x2:=blk_cell (hb1) 2
  have x3:=blk_cell (hb1) 3
  have xl:=blk_lt (hb1)
  simp only [List.getElem?_toArray,List.getElem?_cons_zero,List.getElem?_cons_succ] at x0 x1 x2 x3
  have HX1:=Lib.hid hb1
  clear hb1
  go_wp2_with (go_at_call 85;refine (pop1_any p m cv sv V L C none _ HM1.out HS.out hp1).mono ?_;rintro e w5 ⟨rfl,rfl⟩;exact ⟨rfl,ResP.throw (y:=(2202,[])) HM.out HB1.out⟩)
 | some x =>
  obtain ⟨⟨ia,ta,na⟩,s⟩:=x
  by_cases ht:truth ⟨ia,ta,na⟩ = true
  ·refine resp_of (X:=.ok { m with stack:=s }) (congrArg Except.ok (if_pos ht)).symm ?_
   go_enter Tryz.func61,Tryz.ntmps61
   go_upto_region 1 with fail
   have hb1:=blk_new w (iO ⟨⟨16,arg,num,t⟩,r⟩)
   have HB1:Hid (Below w.heap.size w (w.alloc (iO ⟨⟨16,arg,num,t⟩,r⟩))):=(Below.refl _ _).alloc (Nat.le_refl _) _
   have HM1:=Lib.hid (HM.out.below HB1.out)
   change Code.wp _ _ _ _ (w.alloc (iO ⟨⟨16,arg,num,t⟩,r⟩))
   generalize w.alloc (iO ⟨⟨16,arg,num,t⟩,r⟩) = w1 at *
   have x0:=blk_cell (hb1) 0
   have x1:=blk_cell (hb1) 1
   have x2:=blk_cell (hb1) 2
   have x3:=blk_cell (hb1) 3
   have xl:=blk_lt (hb1)
   simp only [List.getElem?_toArray,List.getElem?_cons_zero,List.getElem?_cons_succ] at x0 x1 x2 x3
   have HX1:=Lib.hid hb1
   clear hb1
   go_wp2_with (first | (go_at_call 85;refine (pop1_any p m cv sv V L C (some (⟨ia,ta,na⟩,s)) _ HM1.out HS.out hp1).mono ?_;rintro e w5 ⟨g5,c5,ra,sv5,L5,rfl,l5a,l5b,l5c,l5d,k50,k51,k52,hna,hm5,hs5,hn5⟩;have HM5:=Lib.hid hm5;have HS5:=Lib.hid hs5;have HN5:=Lib.hid ((Next.of_below HB1.out).trans hn5);have HNA:=Lib.hid hna;have HX5:=Lib.hid (HM.out.box HX1.out hn5);clear hm5 hs5 hn5 hna) | (go_at_call 86;refine (truth_is _ HNA.out ht).mono ?_;rintro e w6 ⟨rfl,hb6⟩;have HB6:=Lib.hid hb6;clear hb6))
   go_end0
   exact ⟨rfl,sv5,V,L5,HM5.out.below HB6.out,HS5.out,HN5.out.trans (Next.of_below HB6.out)⟩
  ·refine resp_of (X:=.ok { m with stack:=s,pc:=arg }) (congrArg Except.ok (if_neg ht)).symm ?_
   have htf:truth ⟨ia,ta,na⟩ = false:=by simpa using ht
   clear ht
   go_enter Tryz.func61,Tryz.ntmps61
   go_upto_region 1 with fail
   have hb1:=blk_new w (iO ⟨⟨16,arg,num,t⟩,r⟩)
   have HB1:Hid (Below w.heap.size w (w.alloc (iO ⟨⟨16,arg,num,t⟩,r⟩))):=(Below.refl _ _).alloc (Nat.le_refl _) _
   have HM1:=Lib.hid (HM.out.below HB1.out)
   change Code.wp _ _ _ _ (w.alloc (iO ⟨⟨16,arg,num,t⟩,r⟩))
   generalize w.alloc (iO ⟨⟨16,arg,num,t⟩,r⟩) = w1 at *
   have x0:=blk_cell (hb1) 0
   have x1:=blk_cell (hb1) 1
   have x2:=blk_cell (hb1) 2
   have x3:=blk_cell (hb1) 3
   have xl:=blk_lt (hb1)
   simp only [List.getElem?_toArray,List.getElem?_cons_zero,List.getElem?_cons_succ] at x0 x1 x2 x3
   have HX1:=Lib.hid hb1
   clear hb1
   go_wp2_with (first | (go_at_call 85;refine (pop1_any p m cv sv V L C (some (⟨ia,ta,na⟩,s)) _ HM1.out HS.out hp1).mono ?_;rintro e w5 ⟨g5,c5,ra,sv5,L5,rfl,l5a,l5b,l5c,l5d,k50,k51,k52,hna,hm5,hs5,hn5⟩;have HM5:=Lib.hid hm5;have HS5:=Lib.hid hs5;have HN5:=Lib.hid ((Next.of_below HB1.out).trans hn5);have HNA:=Lib.hid hna;have HX5:=Lib.hid (HM.out.box HX1.out hn5);clear hm5 hs5 hn5 hna) | (go_at_call 86;refine (truth_is _ HNA.out htf).mono ?_;rintro e w6 ⟨rfl,hb6⟩;have HB6:=Lib.hid hb6;have HM6:=Lib.hid (HM5.out.below hb6);have y1:=blk_cell (blk_below HX5.out hb6) 1;have q1:=HM6.out.cell 1;have f1:=HM6.out.free 1;have ql:=blk_lt HM6.out.obj;clear hb6))
   go_end0
   refine ⟨rfl,sv5,V,L5,MA.poke HM6.out ?_ ?_ rfl rfl,HS5.out,(HN5.out.trans (Next.of_below HB6.out)).trans (Next.of_turned ?_)⟩
   ·exact (Turned.refl _ _).setCell (by simp) _
   ·have:=blk_set HM6.out.obj 1 (.int .i64 arg)
    rw [List.setIfInBounds_toArray] at this
    exact this
   ·exact (Turned.refl _ _).setCell (by simp) _
set_option maxHeartbeats 1000000 in
theorem do_not (p:Nat) (m:Mac) (cv sv:Value) (V L:Vs) (C:Is) (arg:Int) (num:Nat) (t:List UInt8) (r:Nat) (w:World) (h:MA w p m cv sv V L C) (hs:L.map (·.1) = m.stack) :
  Calls Tryz.prog 61 #[.pointer (some ⟨p,0,none⟩),iV ⟨⟨6,arg,num,t⟩,r⟩] w (ResP (match popM m 1 with | .error e=>.error e | .ok (vs,m)=>pushM m (flagV (!truth (vs.headD zeroV)))) p m cv sv V C w):=by
 rw [popM_1]
 have HM:=Lib.hid h
 have HS:=Lib.hid hs
 clear h hs
 cases hp1:pop1M m with
 | none =>
  go_enter Tryz.func61,Tryz.ntmps61
  go_upto_region 1 with fail
  have hb1:=blk_new w (iO ⟨⟨6,arg,num,t⟩,r⟩)
  have HB1:Hid (Below w.heap.size w (w.alloc (iO ⟨⟨6,arg,num,t⟩,r⟩))):=(Below.refl _ _).alloc (Nat.le_refl _) _
  have HM1:=Lib.hid (HM.out.below HB1.out)
  change Code.wp _ _ _ _ (w.alloc (iO ⟨⟨6,arg,num,t⟩,r⟩))
  generalize w.alloc (iO ⟨⟨6,arg,num,t⟩,r⟩) = w1 at *
  have x0:=blk_cell (hb1) 0
  have x1:=blk_cell (hb1) 1
  have x2:=blk_cell (hb1) 2
  have x3:=blk_cell (hb1) 3
  have xl:=blk_lt (hb1)
  simp only [List.getElem?_toArray,List.getElem?_cons_zero,List.getElem?_cons_succ] at x0 x1 x2 x3
  have HX1:=Lib.hid hb1
  clear hb1
  go_wp2_with (go_at_call 85;refine (pop1_any p m cv sv V L C none _ HM1.out HS.out hp1).mono ?_;rintro e w5 ⟨rfl,rfl⟩;exact ⟨rfl,ResP.throw (y:=(2202,[])) HM.out HB1.out⟩)
 | some x =>
  obtain ⟨⟨ia,ta,na⟩,s⟩:=x
  obtain ⟨q,hq⟩:∃ q,truth ⟨ia,ta,na⟩ = q:=⟨_,rfl⟩
  refine resp_of (X:=pushM { m with stack:=s } (flagV (!q))) (by rw [← hq];rfl) ?_
  obtain ⟨X,hX⟩:∃ X,pushM { m with stack:=s } (flagV (!q)) = X:=⟨_,rfl⟩
  rw [hX]
  cases q with
  | true =>
   have HFL:Hid (∀ W,Calls Tryz.prog 89 #[.bool false] W fun e w'=>e = .returned (vV false [] (flagV false).num) ∧ Below W.heap.size W w'):=fun W=>flag_any false W
   have HNF:Hid (NumOk (flagV false) (flagV false).num):=numF false
   have hX':pushM { m with stack:=s } ⟨false,[],(flagV false).num⟩ = X:=hX
   have HNF':Hid (NumOk ⟨false,[],(flagV false).num⟩ (flagV false).num):=HNF.out
   generalize (flagV false).num = qn at *
   clear hX HNF
   cases X with
   | error z =>
    go_enter Tryz.func61,Tryz.ntmps61
    go_upto_region 1 with fail
    have hb1:=blk_new w (iO ⟨⟨6,arg,num,t⟩,r⟩)
    have HB1:Hid (Below w.heap.size w (w.alloc (iO ⟨⟨6,arg,num,t⟩,r⟩))):=(Below.refl _ _).alloc (Nat.le_refl _) _
    have HM1:=Lib.hid (HM.out.below HB1.out)
    change Code.wp _ _ _ _ (w.alloc (iO ⟨⟨6,arg,num,t⟩,r⟩))
    generalize w.alloc (iO ⟨⟨6,arg,num,t⟩,r⟩) = w1 at *
    have x0:=blk_cell (hb1) 0
    have x1:=blk_cell (hb1) 1
    have x2:=blk_cell (hb1) 2
    have x3:=blk_cell (hb1) 3
    have xl:=blk_lt (hb1)
    simp only [List.getElem?_toArray,List.getElem?_cons_zero,List.getElem?_cons_succ] at x0 x1 x2 x3
    have HX1:=Lib.hid hb1
    clear hb1
    go_wp2_with (first | (go_at_call 85;refine (pop1_any p m cv sv V L C (some (⟨ia,ta,na⟩,s)) _ HM1.out HS.out hp1).mono ?_;rintro e w5 ⟨g5,c5,ra,sv5,L5,rfl,l5a,l5b,l5c,l5d,k50,k51,k52,hna,hm5,hs5,hn5⟩;have HM5:=Lib.hid hm5;have HS5:=Lib.hid hs5;have HN5:=Lib.hid ((Next.of_below HB1.out).trans hn5);have HNA:=Lib.hid hna;have HX5:=Lib.hid (HM.out.box HX1.out hn5);clear hm5 hs5 hn5 hna) | (go_at_call 86;refine (truth_is _ HNA.out hq).mono ?_;rintro e w6 ⟨rfl,hb6⟩;have HB6:=Lib.hid hb6;clear hb6) | (go_at_call 89;refine (HFL.out _).mono ?_;rintro e w7 ⟨rfl,hb7⟩;have HB7:=Lib.hid (HB6.out.trans (hb7.mono HB6.out.size));clear hb7) | (go_at_call 39;refine (push_behind HM5.out HS5.out HN5.out ⟨false,[],qn⟩ hX' HB7.out HNF'.out).mono ?_;rintro e w6 ⟨rfl,hx⟩;exact ⟨rfl,rfl,hx⟩))
   | ok m2 =>
    go_enter Tryz.func61,Tryz.ntmps61
    go_upto_region 1 with fail
    have hb1:=blk_new w (iO ⟨⟨6,arg,num,t⟩,r⟩)
    have HB1:Hid (Below w.heap.size w (w.alloc (iO ⟨⟨6,arg,num,t⟩,r⟩))):=(Below.refl _ _).alloc (Nat.le_refl _) _
    have HM1:=Lib.hid (HM.out.below HB1.out)
    change Code.wp _ _ _ _ (w.alloc (iO ⟨⟨6,arg,num,t⟩,r⟩))
    generalize w.alloc (iO ⟨⟨6,arg,num,t⟩,r⟩) = w1 at *
    have x0:=blk_cell (hb1) 0
    have x1:=blk_cell (hb1) 1
    have x2:=blk_cell (hb1) 2
    have x3:=blk_cell (hb1) 3
    have xl:=blk_lt (hb1)
    simp only [List.getElem?_toArray,List.getElem?_cons_zero,List.getElem?_cons_succ] at x0 x1 x2 x3
    have HX1:=Lib.hid hb1
    clear hb1
    go_wp2_with (first | (go_at_call 85;refine (pop1_any p m cv sv V L C (some (⟨ia,ta,na⟩,s)) _ HM1.out HS.out hp1).mono ?_;rintro e w5 ⟨g5,c5,ra,sv5,L5,rfl,l5a,l5b,l5c,l5d,k50,k51,k52,hna,hm5,hs5,hn5⟩;have HM5:=Lib.hid hm5;have HS5:=Lib.hid hs5;have HN5:=Lib.hid ((Next.of_below HB1.out).trans hn5);have HNA:=Lib.hid hna;have HX5:=Lib.hid (HM.out.box HX1.out hn5);clear hm5 hs5 hn5 hna) | (go_at_call 86;refine (truth_is _ HNA.out hq).mono ?_;rintro e w6 ⟨rfl,hb6⟩;have HB6:=Lib.hid hb6;clear hb6) | (go_at_call 89;refine (HFL.out _).mono ?_;rintro e w7 ⟨rfl,hb7⟩;have HB7:=Lib.hid (HB6.out.trans (hb7.mono HB6.out.size));clear hb7) | (go_at_call 39;refine (push_behind HM5.out HS5.out HN5.out ⟨false,[],qn⟩ hX' HB7.out HNF'.out).mono ?_;rintro e w6 ⟨rfl,hx⟩;have HX:=Lib.hid hx;clear hx))
    go_end0
    exact ⟨rfl,HX.out⟩
  | false =>
   have HFL:Hid (∀ W,Calls Tryz.prog 89 #[.bool true] W fun e w'=>e = .returned (vV false [] (flagV true).num) ∧ Below W.heap.size W w'):=fun W=>flag_any true W
   have HNF:Hid (NumOk (flagV true) (flagV true).num):=numF true
   have hX':pushM { m with stack:=s } ⟨false,[],(flagV true).num⟩ = X:=hX
   have HNF':Hid (NumOk ⟨false,[],(flagV true).num⟩ (flagV true).num):=HNF.out
   generalize (flagV true).num = qn at *
   clear hX HNF
   cases X with
   | error z =>
    go_enter Tryz.func61,Tryz.ntmps61
    go_upto_region 1 with fail
    have hb1:=blk_new w (iO ⟨⟨6,arg,num,t⟩,r⟩)
    have HB1:Hid (Below w.heap.size w (w.alloc (iO ⟨⟨6,arg,num,t⟩,r⟩))):=(Below.refl _ _).alloc (Nat.le_refl _) _
    have HM1:=Lib.hid (HM.out.below HB1.out)
    change Code.wp _ _ _ _ (w.alloc (iO ⟨⟨6,arg,num,t⟩,r⟩))
    generalize w.alloc (iO ⟨⟨6,arg,num,t⟩,r⟩) = w1 at *
    have x0:=blk_cell (hb1) 0
    have x1:=blk_cell (hb1) 1
    have x2:=blk_cell (hb1) 2
    have x3:=blk_cell (hb1) 3
    have xl:=blk_lt (hb1)
    simp only [List.getElem?_toArray,List.getElem?_cons_zero,List.getElem?_cons_succ] at x0 x1 x2 x3
    have HX1:=Lib.hid hb1
    clear hb1
    go_wp2_with (first | (go_at_call 85;refine (pop1_any p m cv sv V L C (some (⟨ia,ta,na⟩,s)) _ HM1.out HS.out hp1).mono ?_;rintro e w5 ⟨g5,c5,ra,sv5,L5,rfl,l5a,l5b,l5c,l5d,k50,k51,k52,hna,hm5,hs5,hn5⟩;have HM5:=Lib.hid hm5;have HS5:=Lib.hid hs5;have HN5:=Lib.hid ((Next.of_below HB1.out).trans hn5);have HNA:=Lib.hid hna;have HX5:=Lib.hid (HM.out.box HX1.out hn5);clear hm5 hs5 hn5 hna) | (go_at_call 86;refine (truth_is _ HNA.out hq).mono ?_;rintro e w6 ⟨rfl,hb6⟩;have HB6:=Lib.hid hb6;clear hb6) | (go_at_call 89;refine (HFL.out _).mono ?_;rintro e w7 ⟨rfl,hb7⟩;have HB7:=Lib.hid (HB6.out.trans (hb7.mono HB6.out.size));clear hb7) | (go_at_call 39;refine (push_behind HM5.out HS5.out HN5.out ⟨false,[],qn⟩ hX' HB7.out HNF'.out).mono ?_;rintro e w6 ⟨rfl,hx⟩;exact ⟨rfl,rfl,hx⟩))
   | ok m2 =>
    go_enter Tryz.func61,Tryz.ntmps61
    go_upto_region 1 with fail
    have hb1:=blk_new w (iO ⟨⟨6,arg,num,t⟩,r⟩)
    have HB1:Hid (Below w.heap.size w (w.alloc (iO ⟨⟨6,arg,num,t⟩,r⟩))):=(Below.refl _ _).alloc (Nat.le_refl _) _
    have HM1:=Lib.hid (HM.out.below HB1.out)
    change Code.wp _ _ _ _ (w.alloc (iO ⟨⟨6,arg,num,t⟩,r⟩))
    generalize w.alloc (iO ⟨⟨6,arg,num,t⟩,r⟩) = w1 at *
    have x0:=blk_cell (hb1) 0
    have x1:=blk_cell (hb1) 1
    have x2:=blk_cell (hb1) 2
    have x3:=blk_cell (hb1) 3
    have xl:=blk_lt (hb1)
    simp only [List.getElem?_toArray,List.getElem?_cons_zero,List.getElem?_cons_succ] at x0 x1 x2 x3
    have HX1:=Lib.hid hb1
    clear hb1
    go_wp2_with (first | (go_at_call 85;refine (pop1_any p m cv sv V L C (some (⟨ia,ta,na⟩,s)) _ HM1.out HS.out hp1).mono ?_;rintro e w5 ⟨g5,c5,ra,sv5,L5,rfl,l5a,l5b,l5c,l5d,k50,k51,k52,hna,hm5,hs5,hn5⟩;have HM5:=Lib.hid hm5;have HS5:=Lib.hid hs5;have HN5:=Lib.hid ((Next.of_below HB1.out).trans hn5);have HNA:=Lib.hid hna;have HX5:=Lib.hid (HM.out.box HX1.out hn5);clear hm5 hs5 hn5 hna) | (go_at_call 86;refine (truth_is _ HNA.out hq).mono ?_;rintro e w6 ⟨rfl,hb6⟩;have HB6:=Lib.hid hb6;clear hb6) | (go_at_call 89;refine (HFL.out _).mono ?_;rintro e w7 ⟨rfl,hb7⟩;have HB7:=Lib.hid (HB6.out.trans (hb7.mono HB6.out.size));clear hb7) | (go_at_call 39;refine (push_behind HM5.out HS5.out HN5.out ⟨false,[],qn⟩ hX' HB7.out HNF'.out).mono ?_;rintro e w6 ⟨rfl,hx⟩;have HX:=Lib.hid hx;clear hx))
    go_end0
    exact ⟨rfl,HX.out⟩
set_option maxHeartbeats 4000000 in
theorem do_fail (p:Nat) (m:Mac) (cv sv:Value) (V L:Vs) (C:Is) (arg:Int) (num:Nat) (t:List UInt8) (r:Nat) (w:World) (h:MA w p m cv sv V L C) (hs:L.map (·.1) = m.stack) :
  Calls Tryz.prog 61 #[.pointer (some ⟨p,0,none⟩),iV ⟨⟨19,arg,num,t⟩,r⟩] w (ResP (match popM m 1 with | .error e=>.error e | .ok (vs,_)=>.error (2205,shown (vs.headD zeroV))) p m cv sv V C w):=by
 rw [popM_1]
 have HM:=Lib.hid h
 have HS:=Lib.hid hs
 clear h hs
 cases hp1:pop1M m with
 | none =>
  go_enter Tryz.func61,Tryz.ntmps61
  go_upto_region 1 with fail
  have hb1:=blk_new w (iO ⟨⟨19,arg,num,t⟩,r⟩)
  have HB1:Hid (Below w.heap.size w (w.alloc (iO ⟨⟨19,arg,num,t⟩,r⟩))):=(Below.refl _ _).alloc (Nat.le_refl _) _
  have HM1:=Lib.hid (HM.out.below HB1.out)
  change Code.wp _ _ _ _ (w.alloc (iO ⟨⟨19,arg,num,t⟩,r⟩))
  generalize w.alloc (iO ⟨⟨19,arg,num,t⟩,r⟩) = w1 at *
  have x0:=blk_cell (hb1) 0
  have x1:=blk_cell (hb1) 1
  have x2:=blk_cell (hb1) 2
  have x3:=blk_cell (hb1) 3
  have xl:=blk_lt (hb1)
  simp only [List.getElem?_toArray,List.getElem?_cons_zero,List.getElem?_cons_succ] at x0 x1 x2 x3
  have HX1:=Lib.hid hb1
  clear hb1
  go_wp2_with (go_at_call 85;refine (pop1_any p m cv sv V L C none _ HM1.out HS.out hp1).mono ?_;rintro e w5 ⟨rfl,rfl⟩;exact ⟨rfl,ResP.throw (y:=(2202,[])) HM.out HB1.out⟩)
 | some x =>
  obtain ⟨⟨ia,ta,na⟩,s⟩:=x
  refine resp_of (X:=.error (2205,shown ⟨ia,ta,na⟩)) rfl ?_
  go_enter Tryz.func61,Tryz.ntmps61
  go_upto_region 1 with fail
  have hb1:=blk_new w (iO ⟨⟨19,arg,num,t⟩,r⟩)
  have HB1:Hid (Below w.heap.size w (w.alloc (iO ⟨⟨19,arg,num,t⟩,r⟩))):=(Below.refl _ _).alloc (Nat.le_refl _) _
  have HM1:=Lib.hid (HM.out.below HB1.out)
  change Code.wp _ _ _ _ (w.alloc (iO ⟨⟨19,arg,num,t⟩,r⟩))
  generalize w.alloc (iO ⟨⟨19,arg,num,t⟩,r⟩) = w1 at *
  have x0:=blk_cell (hb1) 0
  have x1:=blk_cell (hb1) 1
  have x2:=blk_cell (hb1) 2
  have x3:=blk_cell (hb1) 3
  have xl:=blk_lt (hb1)
  simp only [List.getElem?_toArray,List.getElem?_cons_zero,List.getElem?_cons_succ] at x0 x1 x2 x3
  have HX1:=Lib.hid hb1
  clear hb1
  go_wp2_with (first | (go_at_call 85;refine (pop1_any p m cv sv V L C (some (⟨ia,ta,na⟩,s)) _ HM1.out HS.out hp1).mono ?_;rintro e w5 ⟨g5,c5,ra,sv5,L5,rfl,l5a,l5b,l5c,l5d,k50,k51,k52,hna,hm5,hs5,hn5⟩;have HM5:=Lib.hid hm5;have HS5:=Lib.hid hs5;have HN5:=Lib.hid ((Next.of_below HB1.out).trans hn5);have HNA:=Lib.hid hna;have HX5:=Lib.hid (HM.out.box HX1.out hn5);clear hm5 hs5 hn5 hna) | (go_at_call 91;refine (shown_any ⟨ia,ta,na⟩ ra _ HNA.out).mono ?_;rintro e w6 ⟨rfl,hb6⟩;have HB6:=Lib.hid hb6;clear hb6))
  exact ⟨rfl,rfl,sv5,L5,(HM5.out.below HB6.out).stk m.stack,HN5.out.trans (Next.of_below HB6.out)⟩
set_option maxHeartbeats 1000000 in
theorem do_neg (p:Nat) (m:Mac) (cv sv:Value) (V L:Vs) (C:Is) (arg:Int) (num:Nat) (t:List UInt8) (r:Nat) (w:World) (h:MA w p m cv sv V L C) (hs:L.map (·.1) = m.stack) :
  Calls Tryz.prog 61 #[.pointer (some ⟨p,0,none⟩),iV ⟨⟨5,arg,num,t⟩,r⟩] w (ResP (match popM m 1 with | .error e=>.error e | .ok (vs,m)=>if (vs.headD zeroV).isT then .error (2201,[]) else pushM m (numV (cf (ng (vs.headD zeroV).num)))) p m cv sv V C w):=by
 rw [popM_1]
 have HM:=Lib.hid h
 have HS:=Lib.hid hs
 clear h hs
 cases hp1:pop1M m with
 | none =>
  go_enter Tryz.func61,Tryz.ntmps61
  go_upto_region 1 with fail
  have hb1:=blk_new w (iO ⟨⟨5,arg,num,t⟩,r⟩)
  have HB1:Hid (Below w.heap.size w (w.alloc (iO ⟨⟨5,arg,num,t⟩,r⟩))):=(Below.refl _ _).alloc (Nat.le_refl _) _
  have HM1:=Lib.hid (HM.out.below HB1.out)
  change Code.wp _ _ _ _ (w.alloc (iO ⟨⟨5,arg,num,t⟩,r⟩))
  generalize w.alloc (iO ⟨⟨5,arg,num,t⟩,r⟩) = w1 at *
  have x0:=blk_cell (hb1) 0
  have x1:=blk_cell (hb1) 1
  have x2:=blk_cell (hb1) 2
  have x3:=blk_cell (hb1) 3
  have xl:=blk_lt (hb1)
  simp only [List.getElem?_toArray,List.getElem?_cons_zero,List.getElem?_cons_succ] at x0 x1 x2 x3
  have HX1:=Lib.hid hb1
  clear hb1
  go_wp2_with (go_at_call 85;refine (pop1_any p m cv sv V L C none _ HM1.out HS.out hp1).mono ?_;rintro e w5 ⟨rfl,rfl⟩;exact ⟨rfl,ResP.throw (y:=(2202,[])) HM.out HB1.out⟩)
 | some x =>
  obtain ⟨⟨ia,ta,na⟩,s⟩:=x
  cases ia with
  | true =>
   refine resp_of (X:=.error (2201,[])) rfl ?_
   go_enter Tryz.func61,Tryz.ntmps61
   go_upto_region 1 with fail
   have hb1:=blk_new w (iO ⟨⟨5,arg,num,t⟩,r⟩)
   have HB1:Hid (Below w.heap.size w (w.alloc (iO ⟨⟨5,arg,num,t⟩,r⟩))):=(Below.refl _ _).alloc (Nat.le_refl _) _
   have HM1:=Lib.hid (HM.out.below HB1.out)
   change Code.wp _ _ _ _ (w.alloc (iO ⟨⟨5,arg,num,t⟩,r⟩))
   generalize w.alloc (iO ⟨⟨5,arg,num,t⟩,r⟩) = w1 at *
   have x0:=blk_cell (hb1) 0
   have x1:=blk_cell (hb1) 1
   have x2:=blk_cell (hb1) 2
   have x3:=blk_cell (hb1) 3
   have xl:=blk_lt (hb1)
   simp only [List.getElem?_toArray,List.getElem?_cons_zero,List.getElem?_cons_succ] at x0 x1 x2 x3
   have HX1:=Lib.hid hb1
   clear hb1
   go_upto_region 23 with (go_at_call 85;refine (pop1_any p m cv sv V L C _ _ HM1.out HS.out hp1).mono ?_;rintro e w5 ⟨g5,c5,ra,sv5,L5,rfl,l5a,l5b,l5c,l5d,k50,k51,k52,hna,hm5,hs5,hn5⟩;have HM5:=Lib.hid hm5;have HS5:=Lib.hid hs5;have HN5:=Lib.hid ((Next.of_below HB1.out).trans hn5);have HNA:=Lib.hid hna;have HX5:=Lib.hid (HM.out.box HX1.out hn5);clear hm5 hs5 hn5 hna)
   have hb6:=blk_new w5 (vO true ta ra)
   have HB6:Hid (Below w5.heap.size w5 (w5.alloc (vO true ta ra))):=(Below.refl _ _).alloc (Nat.le_refl _) _
   change Code.wp _ _ _ _ (w5.alloc (vO true ta ra))
   generalize w5.alloc (vO true ta ra) = w6 at *
   have z0:=blk_cell (hb6) 0
   have z1:=blk_cell (hb6) 1
   have z2:=blk_cell (hb6) 2
   have zf0:=blk_free (hb6) 0
   have zf1:=blk_free (hb6) 1
   have zf2:=blk_free (hb6) 2
   have zl:=blk_lt (hb6)
   simp only [List.getElem?_toArray,List.getElem?_cons_zero,List.getElem?_cons_succ] at z0 z1 z2
   have HY6:=Lib.hid hb6
   clear hb6
   go_wp2_with (go_at_call 87;refine (numbers_any _ [(⟨true,ta,na⟩,ra)] _ (VV.new (blk_new w6 _) (by simp)) (by simp)).mono ?_;rintro e w7 ⟨hb7,-,hok⟩;obtain rfl:=hok rfl;have hb:=HB6.out.trans ((((Below.refl w6.heap.size w6).alloc (Nat.le_refl _) _).trans (hb7.mono (by simp))).mono HB6.out.size);exact ⟨rfl,rfl,sv5,L5,(HM5.out.below hb).stk m.stack,HN5.out.trans (Next.of_below hb)⟩)
  | false =>
   obtain ⟨X,hX⟩:∃ X,pushM { m with stack:=s } (numV (cf (ng na))) = X:=⟨_,rfl⟩
   refine resp_of (X:=X) hX.symm ?_
   cases X with
   | error z =>
    go_enter Tryz.func61,Tryz.ntmps61
    go_upto_region 1 with fail
    have hb1:=blk_new w (iO ⟨⟨5,arg,num,t⟩,r⟩)
    have HB1:Hid (Below w.heap.size w (w.alloc (iO ⟨⟨5,arg,num,t⟩,r⟩))):=(Below.refl _ _).alloc (Nat.le_refl _) _
    have HM1:=Lib.hid (HM.out.below HB1.out)
    change Code.wp _ _ _ _ (w.alloc (iO ⟨⟨5,arg,num,t⟩,r⟩))
    generalize w.alloc (iO ⟨⟨5,arg,num,t⟩,r⟩) = w1 at *
    have x0:=blk_cell (hb1) 0
    have x1:=blk_cell (hb1) 1
    have x2:=blk_cell (hb1) 2
    have x3:=blk_cell (hb1) 3
    have xl:=blk_lt (hb1)
    simp only [List.getElem?_toArray,List.getElem?_cons_zero,List.getElem?_cons_succ] at x0 x1 x2 x3
    have HX1:=Lib.hid hb1
    clear hb1
    go_upto_region 23 with (go_at_call 85;refine (pop1_any p m cv sv V L C _ _ HM1.out HS.out hp1).mono ?_;rintro e w5 ⟨g5,c5,ra,sv5,L5,rfl,l5a,l5b,l5c,l5d,k50,k51,k52,hna,hm5,hs5,hn5⟩;have HM5:=Lib.hid hm5;have HS5:=Lib.hid hs5;have HN5:=Lib.hid ((Next.of_below HB1.out).trans hn5);have HNA:=Lib.hid hna;have HX5:=Lib.hid (HM.out.box HX1.out hn5);clear hm5 hs5 hn5 hna)
    have hb6:=blk_new w5 (vO false ta ra)
    have HB6:Hid (Below w5.heap.size w5 (w5.alloc (vO false ta ra))):=(Below.refl _ _).alloc (Nat.le_refl _) _
    change Code.wp _ _ _ _ (w5.alloc (vO false ta ra))
    generalize w5.alloc (vO false ta ra) = w6 at *
    have z0:=blk_cell (hb6) 0
    have z1:=blk_cell (hb6) 1
    have z2:=blk_cell (hb6) 2
    have zf0:=blk_free (hb6) 0
    have zf1:=blk_free (hb6) 1
    have zf2:=blk_free (hb6) 2
    have zl:=blk_lt (hb6)
    simp only [List.getElem?_toArray,List.getElem?_cons_zero,List.getElem?_cons_succ] at z0 z1 z2
    have HY6:=Lib.hid hb6
    clear hb6
    go_upto_region 24 with (go_at_call 87;refine (numbers_any _ [(⟨false,ta,na⟩,ra)] _ (VV.new (blk_new w6 _) (by simp)) (by simp)).mono ?_;rintro e w7 ⟨hb7,hok,-⟩;obtain rfl:=hok rfl;have hb:=((Below.refl w6.heap.size w6).alloc (Nat.le_refl _) _).trans (hb7.mono (by simp));have hb67:=blk_below HY6.out hb;have HB7:=Lib.hid (HB6.out.trans (hb.mono HB6.out.size));clear hb7 hb hok)
    clear z0 z1 z2 zf0 zf1 zf2 zl
    have z0:=blk_cell (hb67) 0
    have z1:=blk_cell (hb67) 1
    have z2:=blk_cell (hb67) 2
    have zf0:=blk_free (hb67) 0
    have zf1:=blk_free (hb67) 1
    have zf2:=blk_free (hb67) 2
    have zl:=blk_lt (hb67)
    simp only [List.getElem?_toArray,List.getElem?_cons_zero,List.getElem?_cons_succ] at z0 z1 z2
    clear hb67
    have HNG:Hid (NumOk (numV (cf (ng na))) (ng ra)):=by
     have h1:cf ra = na:=HNA.out.1
     exact ⟨by rw [neg_cf HNA.out.2,h1];rfl,ng_lt _ HNA.out.2⟩
    have HNE:=Lib.hid (fun W=>Neg_any ra W HNA.out.2)
    have HNB:=Lib.hid (fun W=>number_any (ng ra) W)
    go_wp2_with (first | (go_at_call 88;refine (HNE.out _).mono ?_;rintro e w8 ⟨rfl,rfl⟩) | (go_at_call 40;refine (HNB.out _).mono ?_;rintro e w8 ⟨rfl,hb8⟩;have HB9:=Lib.hid (HB7.out.trans (hb8.mono HB7.out.size));clear hb8) | (go_at_call 39;refine (push_behind HM5.out HS5.out HN5.out (numV (cf (ng na))) hX HB9.out HNG.out).mono ?_;rintro e w9 ⟨rfl,hx⟩;exact ⟨rfl,rfl,hx⟩))
   | ok m2 =>
    go_enter Tryz.func61,Tryz.ntmps61
    go_upto_region 1 with fail
    have hb1:=blk_new w (iO ⟨⟨5,arg,num,t⟩,r⟩)
    have HB1:Hid (Below w.heap.size w (w.alloc (iO ⟨⟨5,arg,num,t⟩,r⟩))):=(Below.refl _ _).alloc (Nat.le_refl _) _
    have HM1:=Lib.hid (HM.out.below HB1.out)
    change Code.wp _ _ _ _ (w.alloc (iO ⟨⟨5,arg,num,t⟩,r⟩))
    generalize w.alloc (iO ⟨⟨5,arg,num,t⟩,r⟩) = w1 at *
    have x0:=blk_cell (hb1) 0
    have x1:=blk_cell (hb1) 1
    have x2:=blk_cell (hb1) 2
    have x3:=blk_cell (hb1) 3
    have xl:=blk_lt (hb1)
    simp only [List.getElem?_toArray,List.getElem?_cons_zero,List.getElem?_cons_succ] at x0 x1 x2 x3
    have HX1:=Lib.hid hb1
    clear hb1
    go_upto_region 23 with (go_at_call 85;refine (pop1_any p m cv sv V L C _ _ HM1.out HS.out hp1).mono ?_;rintro e w5 ⟨g5,c5,ra,sv5,L5,rfl,l5a,l5b,l5c,l5d,k50,k51,k52,hna,hm5,hs5,hn5⟩;have HM5:=Lib.hid hm5;have HS5:=Lib.hid hs5;have HN5:=Lib.hid ((Next.of_below HB1.out).trans hn5);have HNA:=Lib.hid hna;have HX5:=Lib.hid (HM.out.box HX1.out hn5);clear hm5 hs5 hn5 hna)
    have hb6:=blk_new w5 (vO false ta ra)
    have HB6:Hid (Below w5.heap.size w5 (w5.alloc (vO false ta ra))):=(Below.refl _ _).alloc (Nat.le_refl _) _
    change Code.wp _ _ _ _ (w5.alloc (vO false ta ra))
    generalize w5.alloc (vO false ta ra) = w6 at *
    have z0:=blk_cell (hb6) 0
    have z1:=blk_cell (hb6) 1
    have z2:=blk_cell (hb6) 2
    have zf0:=blk_free (hb6) 0
    have zf1:=blk_free (hb6) 1
    have zf2:=blk_free (hb6) 2
    have zl:=blk_lt (hb6)
    simp only [List.getElem?_toArray,List.getElem?_cons_zero,List.getElem?_cons_succ] at z0 z1 z2
    have HY6:=Lib.hid hb6
    clear hb6
    go_upto_region 24 with (go_at_call 87;refine (numbers_any _ [(⟨false,ta,na⟩,ra)] _ (VV.new (blk_new w6 _) (by simp)) (by simp)).mono ?_;rintro e w7 ⟨hb7,hok,-⟩;obtain rfl:=hok rfl;have hb:=((Below.refl w6.heap.size w6).alloc (Nat.le_refl _) _).trans (hb7.mono (by simp));have hb67:=blk_below HY6.out hb;have HB7:=Lib.hid (HB6.out.trans (hb.mono HB6.out.size));clear hb7 hb hok)
    clear z0 z1 z2 zf0 zf1 zf2 zl
    have z0:=blk_cell (hb67) 0
    have z1:=blk_cell (hb67) 1
    have z2:=blk_cell (hb67) 2
    have zf0:=blk_free (hb67) 0
    have zf1:=blk_free (hb67) 1
    have zf2:=blk_free (hb67) 2
    have zl:=blk_lt (hb67)
    simp only [List.getElem?_toArray,List.getElem?_cons_zero,List.getElem?_cons_succ] at z0 z1 z2
    clear hb67
    have HNG:Hid (NumOk (numV (cf (ng na))) (ng ra)):=by
     have h1:cf ra = na:=HNA.out.1
     exact ⟨by rw [neg_cf HNA.out.2,h1];rfl,ng_lt _ HNA.out.2⟩
    have HNE:=Lib.hid (fun W=>Neg_any ra W HNA.out.2)
    have HNB:=Lib.hid (fun W=>number_any (ng ra) W)
    go_wp2_with (first | (go_at_call 88;refine (HNE.out _).mono ?_;rintro e w8 ⟨rfl,rfl⟩) | (go_at_call 40;refine (HNB.out _).mono ?_;rintro e w8 ⟨rfl,hb8⟩;have HB9:=Lib.hid (HB7.out.trans (hb8.mono HB7.out.size));clear hb8) | (go_at_call 39;refine (push_behind HM5.out HS5.out HN5.out (numV (cf (ng na))) hX HB9.out HNG.out).mono ?_;rintro e w9 ⟨rfl,hx⟩;have HX:=Lib.hid hx;clear hx))
    go_end0
    exact ⟨rfl,HX.out⟩
theorem MA.var {w:World} {p:Nat} {m:Mac} {cv sv:Value} {V L:Vs} {C:Is} (h:MA w p m cv sv V L C) {k:Nat} {x:Val × Nat} (hx:V[k]? = some x) :
  w.cell? ⟨p,5 + k * 3,none⟩ = some (.bool x.1.isT) ∧ w.cell? ⟨p,5 + k * 3 + 1,none⟩ = some (.string ⟨x.1.text.toArray⟩) ∧ w.cell? ⟨p,5 + k * 3 + 2,none⟩ = some (.float .f64 x.2) ∧ w.frozen? ⟨p,5 + k * 3,none⟩ = false ∧ w.frozen? ⟨p,5 + k * 3 + 1,none⟩ = false ∧ w.frozen? ⟨p,5 + k * 3 + 2,none⟩ = false ∧ p < w.heap.size:=by
 have hk:k < 64:=by rw [← h.v64];exact (List.getElem?_eq_some_iff.1 hx).1
 obtain ⟨e0,e1,e2⟩:=vCs_get V k x hx
 refine ⟨?_,?_,?_,h.free _,h.free _,h.free _,blk_lt h.obj⟩
 ·rw [h.cell,show 5 + k * 3 = k * 3 + 5 by omega,row_var h.v64 _ (by omega)];exact e0
 ·rw [h.cell,show 5 + k * 3 + 1 = k * 3 + 1 + 5 by omega,row_var h.v64 _ (by omega)];exact e1
 ·rw [h.cell,show 5 + k * 3 + 2 = k * 3 + 2 + 5 by omega,row_var h.v64 _ (by omega)];exact e2
theorem ResP.ways {X:Except Bad Mac} {p:Nat} {m:Mac} {cv sv:Value} {V:Vs} {C:Is} {w:World} {e:Ending} {w':World} (h:ResP X p m cv sv V C w e w'):(e = .returned (.tuple #[]) ∧ ResP X p m cv sv V C w (.returned (.tuple #[])) w') ∨ (∃ ch,e = .panicked ch ∧ ResP X p m cv sv V C w (.panicked ch) w'):=by
 have h2:=h
 unfold ResP at h
 cases X with
 | ok m2=>obtain ⟨rfl,-⟩:=h;exact .inl ⟨rfl,h2⟩
 | error y=>obtain ⟨rfl,-⟩:=h;exact .inr ⟨_,rfl,h2⟩
theorem Pop1P.ways {p:Nat} {m:Mac} {cv sv:Value} {V:Vs} {C:Is} {w:World} {x:Option (Val × List Val)} {e:Ending} {w':World} (h:Pop1P p m cv sv V C w x e w'):(x = none ∧ e = .panicked [{ v:=badV 2202 [],recovered:=false }] ∧ w = w') ∨ ∃ a s,x = some (a,s) ∧ Pop1P p m cv sv V C w (some (a,s)) e w':=by
 cases x with
 | none=>exact .inl ⟨rfl,h⟩
 | some y=>exact .inr ⟨y.1,y.2,rfl,h⟩
set_option maxHeartbeats 1000000 in
theorem do_load (p:Nat) (m:Mac) (cv sv:Value) (V L:Vs) (C:Is) (k:Nat) (hk:k < 64) (a:Val) (ra:Nat) (hV:V[k]? = some (a,ra)) (num:Nat) (t:List UInt8) (r:Nat) (w:World) (h:MA w p m cv sv V L C) (hs:L.map (·.1) = m.stack) :
  Calls Tryz.prog 61 #[.pointer (some ⟨p,0,none⟩),iV ⟨⟨3,k,num,t⟩,r⟩] w (ResP (pushM m a) p m cv sv V C w):=by
 have HM:=Lib.hid h
 have hok:=h.vok _ (List.mem_of_getElem? hV)
 obtain ⟨ia,ta,na⟩:=a
 have HP:Hid (∀ W,Below w.heap.size w W → Calls Tryz.prog 39 #[.pointer (some ⟨p,0,none⟩),vV ia ta ra] W (ResP (pushM m ⟨ia,ta,na⟩) p m cv sv V C w)):=fun W hb=>push_from h hs ⟨ia,ta,na⟩ ra W hb hok
 have hki:(k:Int) < 64:=by omega
 have HV:=Lib.hid hV
 clear h hs hok hV
 generalize pushM m ⟨ia,ta,na⟩ = X at *
 go_enter Tryz.func61,Tryz.ntmps61
 go_upto_region 1 with fail
 have hb1:=blk_new w (iO ⟨⟨3,(k:Int),num,t⟩,r⟩)
 have HB1:Hid (Below w.heap.size w (w.alloc (iO ⟨⟨3,(k:Int),num,t⟩,r⟩))):=(Below.refl _ _).alloc (Nat.le_refl _) _
 have HM1:=Lib.hid (HM.out.below HB1.out)
 change Code.wp _ _ _ _ (w.alloc (iO ⟨⟨3,(k:Int),num,t⟩,r⟩))
 generalize w.alloc (iO ⟨⟨3,(k:Int),num,t⟩,r⟩) = w1 at *
 have x0:=blk_cell (hb1) 0
 have x1:=blk_cell (hb1) 1
 have x2:=blk_cell (hb1) 2
 have x3:=blk_cell (hb1) 3
 have xl:=blk_lt (hb1)
 simp only [List.getElem?_toArray,List.getElem?_cons_zero,List.getElem?_cons_succ] at x0 x1 x2 x3
 have HX1:=Lib.hid hb1
 clear hb1
 obtain ⟨q0,q1,q2,f0,f1,f2,ql⟩:=HM1.out.var HV.out
 simp only at q0 q1 q2
 go_wp2_with fail
 go_region_law
  (go_simp
   go_at_call 39
   refine (HP.out _ HB1.out.drew).mono ?_
   rintro e w6 hres
   rcases hres.ways with ⟨rfl,hx⟩ | ⟨ch,rfl,hx⟩
   rotate_left
   · go_wp2_with fail
     exact ⟨rfl,hx⟩
   have HX:=Lib.hid hx
   clear hx hres)
 all_goals
  go_wp2_with fail
  go_end0
  exact HX.out
/-! a variable is set -/
theorem vCs_set:∀ (V:Vs) (k:Nat) (x:Val × Nat),k < V.length → (((vCs V).set (k * 3) (.bool x.1.isT)).set (k * 3 + 1) (.string ⟨x.1.text.toArray⟩)).set (k * 3 + 2) (.float .f64 x.2) = vCs (V.set k x)
 | [],k,x,h=>by simp at h
 | y :: V,0,x,h=>rfl
 | y :: V,k + 1,x,h=>by
  have e:vCs (y :: V) = .bool y.1.isT :: .string ⟨y.1.text.toArray⟩ :: .float .f64 y.2 :: vCs V:=rfl
  have e2:vCs ((y :: V).set (k + 1) x) = .bool y.1.isT :: .string ⟨y.1.text.toArray⟩ :: .float .f64 y.2 :: vCs (V.set k x):=rfl
  rw [e,e2,← vCs_set V k x (by simpa using h)]
  rw [show (k + 1) * 3 = k * 3 + 1 + 1 + 1 by omega,show k * 3 + 1 + 1 + 1 + 1 = (k * 3 + 1) + 1 + 1 + 1 by omega,show k * 3 + 1 + 1 + 1 + 2 = (k * 3 + 2) + 1 + 1 + 1 by omega]
  simp only [List.set_cons_succ]
def rowL (a b c d e:Value) (Y:List Value) (T:List Value):List Value:=a :: b :: c :: d :: e :: (Y ++ T)
theorem rowL_put {W:World} {p:Nat} {a b c d e:Value} {Y T:List Value} {t:TypeId} (h:W.heap[p]? = some (.cells (rowL a b c d e Y T).toArray t (0,0))) (j k:Nat) (hj:j = k + 5) (hk:k < Y.length) (u:Value):(W.setCell ⟨p,j,none⟩ u).heap[p]? = some (.cells (rowL a b c d e (Y.set k u) T).toArray t (0,0)):=by
 subst hj
 have:=blk_set h (k + 5) u
 rw [List.setIfInBounds_toArray] at this
 unfold rowL at this
 rw [show k + 5 = k + 1 + 1 + 1 + 1 + 1 by omega] at this
 simp only [List.set_cons_succ] at this
 rw [List.set_append_left _ _ hk] at this
 exact this
theorem MA.setV {w:World} {p:Nat} {m:Mac} {cv sv:Value} {V L:Vs} {C:Is} (h:MA w p m cv sv V L C) {k:Nat} (hk:k < 64) (a:Val) (ra:Nat) (ha:NumOk a ra) :
  MA (((w.setCell ⟨p,5 + k * 3,none⟩ (.bool a.isT)).setCell ⟨p,5 + k * 3 + 1,none⟩ (.string ⟨a.text.toArray⟩)).setCell ⟨p,5 + k * 3 + 2,none⟩ (.float .f64 ra)) p { m with vars:=m.vars.set k a } cv sv (V.set k (a,ra)) L C:=by
 have hl:=vCs_len V
 rw [h.v64] at hl
 have ht:Turned [p] w (((w.setCell ⟨p,5 + k * 3,none⟩ (.bool a.isT)).setCell ⟨p,5 + k * 3 + 1,none⟩ (.string ⟨a.text.toArray⟩)).setCell ⟨p,5 + k * 3 + 2,none⟩ (.float .f64 ra)):=(((Turned.refl _ _).setCell (by simp) _).setCell (by simp) _).setCell (by simp) _
 have ho:=rowL_put (rowL_put (rowL_put (Y:=vCs V) (T:=tailM m) (a:=cv) (b:=.int .i64 m.pc) (c:=.int .i64 m.fuel) (d:=.int .i64 m.ran) (e:=sv) h.obj (5 + k * 3) (k * 3) (by omega) (by omega) (.bool a.isT)) (5 + k * 3 + 1) (k * 3 + 1) (by omega) (by simp;omega) (.string ⟨a.text.toArray⟩)) (5 + k * 3 + 2) (k * 3 + 2) (by omega) (by simp;omega) (.float .f64 ra)
 rw [vCs_set V k (a,ra) (by rw [h.v64];exact hk)] at ho
 refine h.write (ht.mono (fun k hk=>by simp at hk;simp [hk])) ho (by rw [List.length_set];exact h.v64) ?_ ?_ h.lok (h.row.kept (fun g o hg hb=>ht.kept hb (by
  simp
  rintro rfl
  exact h.ne_row (by rw [hg];simp)))) h.few rfl
 ·rw [List.map_set,h.vars]
 ·intro x hx
  rcases List.mem_or_eq_of_mem_set hx with e | e
  ·exact h.vok x e
  ·rw [e];exact ha
set_option maxHeartbeats 1000000 in
theorem do_store (p:Nat) (m:Mac) (cv sv:Value) (V L:Vs) (C:Is) (k:Nat) (hk:k < 64) (num:Nat) (t:List UInt8) (r:Nat) (w:World) (h:MA w p m cv sv V L C) (hs:L.map (·.1) = m.stack) :
  Calls Tryz.prog 61 #[.pointer (some ⟨p,0,none⟩),iV ⟨⟨4,k,num,t⟩,r⟩] w (ResP (match popM m 1 with | .error e=>.error e | .ok (vs,m)=>.ok { m with vars:=m.vars.set k (vs.headD zeroV) }) p m cv sv V C w):=by
 rw [popM_1]
 have HM:=Lib.hid h
 have HS:=Lib.hid hs
 have hki:(k:Int) < 64:=by omega
 obtain ⟨x,hx⟩:∃ x,pop1M m = x:=⟨_,rfl⟩
 rw [hx]
 have HNO:Hid (x = none → ∀ W,Below w.heap.size w W → ResP (match (match x with | none=>(.error (2202,[]):Except Bad (List Val × Mac)) | some (a,s)=>.ok ([a],{ m with stack:=s })) with | .error e=>.error e | .ok (vs,m)=>.ok { m with vars:=m.vars.set k (vs.headD zeroV) }) p m cv sv V C w (.panicked [{ v:=badV 2202 [],recovered:=false }]) W):=fun e W hb=>by
  rw [e]
  exact ResP.throw (y:=(2202,[])) HM.out hb
 have HYE:Hid (∀ a s,x = some (a,s) → ∀ e W,ResP (.ok { m with stack:=s,vars:=m.vars.set k a }) p m cv sv V C w e W → ResP (match (match x with | none=>(.error (2202,[]):Except Bad (List Val × Mac)) | some (a,s)=>.ok ([a],{ m with stack:=s })) with | .error e=>.error e | .ok (vs,m)=>.ok { m with vars:=m.vars.set k (vs.headD zeroV) }) p m cv sv V C w e W):=fun a s e e2 W hr=>by
  rw [e]
  exact hr
 generalize (match (match x with | none=>(.error (2202,[]):Except Bad (List Val × Mac)) | some (a,s)=>.ok ([a],{ m with stack:=s })) with | .error e=>(.error e:Except Bad Mac) | .ok (vs,m)=>.ok { m with vars:=m.vars.set k (vs.headD zeroV) }) = R at *
 have HPX:=Lib.hid hx
 clear h hs hx
 go_enter Tryz.func61,Tryz.ntmps61
 go_upto_region 1 with fail
 have hb1:=blk_new w (iO ⟨⟨4,(k:Int),num,t⟩,r⟩)
 have HB1:Hid (Below w.heap.size w (w.alloc (iO ⟨⟨4,(k:Int),num,t⟩,r⟩))):=(Below.refl _ _).alloc (Nat.le_refl _) _
 have HM1:=Lib.hid (HM.out.below HB1.out)
 change Code.wp _ _ _ _ (w.alloc (iO ⟨⟨4,(k:Int),num,t⟩,r⟩))
 generalize w.alloc (iO ⟨⟨4,(k:Int),num,t⟩,r⟩) = w1 at *
 have x0:=blk_cell (hb1) 0
 have x1:=blk_cell (hb1) 1
 have x2:=blk_cell (hb1) 2
 have x3:=blk_cell (hb1) 3
 have xl:=blk_lt (hb1)
 simp only [List.getElem?_toArray,List.getElem?_cons_zero,List.getElem?_cons_succ] at x0 x1 x2 x3
 have HX1:=Lib.hid hb1
 clear hb1
 have HMd:Hid (MA w1.drew p m cv sv V L C):=HM1.out.drew
 have HX1d:Hid (w1.drew.heap[w.heap.size]? = some (iO ⟨⟨4,(k:Int),num,t⟩,r⟩)):=HX1.out
 obtain ⟨y,hy⟩:∃ y,V[k]? = some y:=⟨_,List.getElem?_eq_getElem (by have:=HM.out.v64;omega)⟩
 have HVY:=Lib.hid hy
 clear hy
 go_wp2_with fail
 go_region_law
  (go_simp
   go_at_call 85
   refine (pop1_any p m cv sv V L C _ _ HMd.out HS.out HPX.out).mono ?_
   rintro e w5 hres
   rcases hres.ways with ⟨hn,rfl,rfl⟩ | ⟨⟨ia,ta,na⟩,s,hxs,g5,c5,ra,sv5,L5,rfl,l5a,l5b,l5c,l5d,k50,k51,k52,hna,hm5,hs5,hn5⟩
   · go_wp2_with fail
     exact ⟨rfl,HNO.out hn _ HB1.out.drew⟩
   have HM5:=Lib.hid hm5
   have HS5:=Lib.hid hs5
   have HN5:=Lib.hid ((Next.of_below HB1.out.drew).trans hn5)
   have HNA:=Lib.hid hna
   have HXS:=Lib.hid hxs
   obtain ⟨q0,q1,q2,f0,f1,f2,ql⟩:=HM5.out.var HVY.out
   have yb:=HM.out.box HX1d.out hn5
   have y1:w5.cell? ⟨w.heap.size,1,none⟩ = some (.int .i64 (k:Int)):=blk_cell yb 1
   have yl:=blk_lt yb
   clear hm5 hs5 hn5 hna hres hxs)
 all_goals
  go_wp2_with fail
  go_end0
  refine HYE.out _ _ HXS.out _ _ ⟨rfl,sv5,_,L5,HM5.out.setV hk ⟨ia,ta,na⟩ ra HNA.out,HS5.out,HN5.out.trans (Next.of_turned ?_)⟩
  exact (((Turned.refl _ _).setCell (by simp) _).setCell (by simp) _).setCell (by simp) _
end Go.Proofs.YtmfpmandkhiknaaGreatDoor.vmm
