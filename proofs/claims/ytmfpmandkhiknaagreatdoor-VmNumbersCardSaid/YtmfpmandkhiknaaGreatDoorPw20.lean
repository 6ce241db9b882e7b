/-
  Proved: what the machine does of an instruction: a function, an operator of two values; of every instruction. Conditions: as each theorem says.
  Proved: what the machine does of every instruction that may be; what its deferred function does. Conditions: as each theorem says.
-/
import Derived.Test.YtmfpmandkhiknaaGreatDoorPw19
import Derived.Test.YtmfpmandkhiknaaGreatDoorPw9
set_option linter.unusedVariables false
set_option linter.unusedSimpArgs false
namespace Go.Proofs.YtmfpmandkhiknaaGreatDoor.vmm
open Go Go.RowKit Ieee
open flt heap
open lex (run_store_float add0)
set_option maxRecDepth 100000
attribute [local go_sem] run_store_float
def PopKP (p:Nat) (m:Mac) (cv sv:Value) (V:Vs) (C:Is) (k:Nat) (w:World) (e:Ending) (w':World):Prop:=
 (popM m k = .error (2202,[]) ∧ e = .panicked [{ v:=badV 2202 [],recovered:=false }] ∧ w = w') ∨
 ∃ vs s v sv' Lv L',popM m k = .ok (vs,{ m with stack:=s }) ∧ (∀ x ∈ vs,x ∈ m.stack) ∧ e = .returned v ∧ VV w' v Lv ∧ VsOk Lv ∧ Lv.map (·.1) = vs ∧ Lv.length = k ∧ MA w' p { m with stack:=s } cv sv' V L' C ∧ L'.map (·.1) = s ∧ Next p sv w sv' w'
theorem popk_any (p:Nat) (m:Mac) (cv sv:Value) (V L:Vs) (C:Is) (k:Nat) (w:World) (h:MA w p m cv sv V L C) (hs:L.map (·.1) = m.stack) (hk:1 ≤ k) (hk2:k ≤ 10) :
  Calls Tryz.prog 85 #[.pointer (some ⟨p,0,none⟩),.int .i64 k] w (PopKP p m cv sv V C k w):=by
 refine (pop_any p m cv sv V L C k w h hk hk2).mono fun e w' hp => ?_
 have hl:m.stack.length = L.length:=by rw [← hs,List.length_map]
 unfold PopP at hp
 unfold PopKP popM
 by_cases h1:L.length < k
 ·rw [if_pos h1] at hp
  rw [if_pos (by omega)]
  exact .inl ⟨rfl,hp⟩
 ·rw [if_neg h1] at hp
  rw [if_neg (by omega)]
  obtain ⟨v,sv',rfl,hr,hma,hn⟩:=hp
  refine .inr ⟨_,_,v,sv',_,_,rfl,fun x hx=>List.mem_of_mem_drop hx,rfl,hr.vv,fun x hx=>h.lok x (List.mem_of_mem_drop hx),?_,?_,hma.stk _,?_,hn⟩
  ·rw [List.map_drop,hs,hl]
  ·rw [List.length_drop];omega
  ·rw [List.map_take,hs,hl]
set_option maxHeartbeats 1000000 in
theorem do_ask (p:Nat) (m:Mac) (cv sv:Value) (V L:Vs) (C:Is) (k:Nat) (num:Nat) (t:List UInt8) (r:Nat) (w:World) (h:MA w p m cv sv V L C) (hs:L.map (·.1) = m.stack) (hsh:Short m.stack) (hN:argN t = some (k:Int)) :
  Calls Tryz.prog 61 #[.pointer (some ⟨p,0,none⟩),iV ⟨⟨17,k,num,t⟩,r⟩] w (ResP (match popM m k with | .error e=>.error e | .ok (vs,m)=>askM m t vs) p m cv sv V C w):=by
 have hk:=argN_few hN
 have HM:=Lib.hid h
 have HS:=Lib.hid hs
 have HNO:Hid (popM m k = .error (2202,[]) → ∀ W,Below w.heap.size w W → ResP (match popM m k with | .error e=>.error e | .ok (vs,m)=>askM m t vs) p m cv sv V C w (.panicked [{ v:=badV 2202 [],recovered:=false }]) W):=fun e W hb=>by
  rw [e]
  exact ResP.throw (y:=(2202,[])) HM.out hb
 have HYE:Hid (∀ vs m2,popM m k = .ok (vs,m2) → ∀ e W,ResP (askM m2 t vs) p m cv sv V C w e W → ResP (match popM m k with | .error e=>.error e | .ok (vs,m)=>askM m t vs) p m cv sv V C w e W):=fun vs m2 e e2 W hr=>by
  rw [e]
  exact hr
 have HPK:=Lib.hid (fun W h=>popk_any p m cv sv V L C k W h hs (by omega) (by omega))
 generalize (match popM m k with | .error e=>(.error e:Except Bad Mac) | .ok (vs,m)=>askM m t vs) = R at *
 have HNN:=Lib.hid hN
 have HSH:=Lib.hid hsh
 clear h hs hN hsh
 go_enter Tryz.func61,Tryz.ntmps61
 go_upto_region 1 with fail
 have hb1:=blk_new w (iO ⟨⟨17,(k:Int),num,t⟩,r⟩)
 have HB1:Hid (Below w.heap.size w (w.alloc (iO ⟨⟨17,(k:Int),num,t⟩,r⟩))):=(Below.refl _ _).alloc (Nat.le_refl _) _
 have HM1:=Lib.hid (HM.out.below HB1.out)
 change Code.wp _ _ _ _ (w.alloc (iO ⟨⟨17,(k:Int),num,t⟩,r⟩))
 generalize w.alloc (iO ⟨⟨17,(k:Int),num,t⟩,r⟩) = w1 at *
 have x0:=blk_cell (hb1) 0
 have x1:=blk_cell (hb1) 1
 have x2:=blk_cell (hb1) 2
 have x3:=blk_cell (hb1) 3
 have xl:=blk_lt (hb1)
 simp only [List.getElem?_toArray,List.getElem?_cons_zero,List.getElem?_cons_succ] at x0 x1 x2 x3
 have HX1:=Lib.hid hb1
 clear hb1
 have HMd:Hid (MA w1.drew p m cv sv V L C):=HM1.out.drew
 have HX1d:Hid (w1.drew.heap[w.heap.size]? = some (iO ⟨⟨17,(k:Int),num,t⟩,r⟩)):=HX1.out
 go_wp2_with fail
 go_region_law
  (go_simp
   first
   | (go_at_call 85
      refine (HPK.out _ HMd.out).mono ?_
      rintro e w5 hres
      rcases hres with ⟨hn,rfl,rfl⟩ | ⟨vs,s,v,sv5,Lv,L5,hpm,hms,rfl,hvv,hok,hmp,hlk,hm5,hs5,hn5⟩
      · go_wp2_with fail
        exact ⟨rfl,HNO.out hn _ HB1.out.drew⟩
      have HASK:=Lib.hid (ask_any p { m with stack:=s } cv sv5 V L5 C t v Lv w5 hm5 hs5 hvv hok (fun x hx=>HSH.out x.1 (hms _ (hmp ▸ List.mem_map_of_mem (f:=fun y:Val × Nat=>y.1) hx))) (by rw [hlk];exact HNN.out))
      rw [hmp] at HASK
      have HN5:=Lib.hid ((Next.of_below HB1.out.drew).trans hn5)
      have HPM:=Lib.hid hpm
      have yb:=HM.out.box HX1d.out hn5
      have y3:w5.cell? ⟨w.heap.size,3,none⟩ = some (.string ⟨t.toArray⟩):=blk_cell yb 3
      have yl:=blk_lt yb
      clear hm5 hs5 hn5 hvv hok hms hpm hmp hlk yb)
   | (go_at_call 90
      refine (HASK.out).mono ?_
      rintro e w6 hres
      have hx2:=HYE.out _ _ HPM.out _ _ (hres.behind (m:=m) s HN5.out)
      rcases hres.ways with ⟨rfl,hx⟩ | ⟨ch,rfl,hx⟩
      rotate_left
      · go_wp2_with fail
        exact ⟨rfl,hx2⟩
      have HX:=Lib.hid hx2
      clear hx hres hx2))
 all_goals
  go_wp2_with fail
  go_end0
  exact HX.out
theorem ValP.ways {x:Except Bad Val} {w:World} {e:Ending} {w':World} (h:ValP x w e w'):(∃ y,x = .error y ∧ e = .panicked [{ v:=badV y.1 y.2,recovered:=false }] ∧ Below w.heap.size w w') ∨ ∃ c r,x = .ok c ∧ e = .returned (vV c.isT c.text r) ∧ NumOk c r ∧ Below w.heap.size w w':=by
 unfold ValP at h
 cases x with
 | error y=>exact .inl ⟨y,rfl,h.2,h.1⟩
 | ok c =>
  obtain ⟨hb,r,he,hr⟩:=h
  exact .inr ⟨c,r,rfl,he,hr,hb⟩
theorem shown_few {v:Val} (h:v.text.length ≤ 1024):(shown v).length ≤ 100000:=by
 unfold shown
 split
 ·omega
 ·have:=txt_size v.num
  show (txt v.num).size ≤ _
  omega
def binM (m:Mac) (op:Int):Except Bad Mac:=match popM m 2 with
 | .error e=>.error e
 | .ok (vs,m)=>(match binaryM op (vs.headD zeroV) (vs.getD 1 zeroV) with
  | .error e=>.error e
  | .ok v=>pushM m v)
set_option maxHeartbeats 2000000 in
theorem do_bin (p:Nat) (m:Mac) (cv sv:Value) (V L:Vs) (C:Is) (op arg:Int) (num:Nat) (t:List UInt8) (r:Nat) (w:World) (h:MA w p m cv sv V L C) (hs:L.map (·.1) = m.stack) (hsh:Short m.stack) (ho:7 ≤ op ∧ op ≤ 14) :
  Calls Tryz.prog 61 #[.pointer (some ⟨p,0,none⟩),iV ⟨⟨op,arg,num,t⟩,r⟩] w (ResP (binM m op) p m cv sv V C w):=by
 have b0:(op == 0) = false:=beq_eq_false_iff_ne.2 (by omega)
 have b1:(op == 1) = false:=beq_eq_false_iff_ne.2 (by omega)
 have b2:(op == 2) = false:=beq_eq_false_iff_ne.2 (by omega)
 have b3:(op == 3) = false:=beq_eq_false_iff_ne.2 (by omega)
 have b4:(op == 4) = false:=beq_eq_false_iff_ne.2 (by omega)
 have b5:(op == 5) = false:=beq_eq_false_iff_ne.2 (by omega)
 have b6:(op == 6) = false:=beq_eq_false_iff_ne.2 (by omega)
 have b15:(op == 15) = false:=beq_eq_false_iff_ne.2 (by omega)
 have b16:(op == 16) = false:=beq_eq_false_iff_ne.2 (by omega)
 have b17:(op == 17) = false:=beq_eq_false_iff_ne.2 (by omega)
 have b18:(op == 18) = false:=beq_eq_false_iff_ne.2 (by omega)
 have b19:(op == 19) = false:=beq_eq_false_iff_ne.2 (by omega)
 have HM:=Lib.hid h
 have HS:=Lib.hid hs
 have HNO:Hid (popM m 2 = .error (2202,[]) → ∀ W,Below w.heap.size w W → ResP (binM m op) p m cv sv V C w (.panicked [{ v:=badV 2202 [],recovered:=false }]) W):=fun e W hb=>by
  unfold binM
  rw [e]
  exact ResP.throw (y:=(2202,[])) HM.out hb
 have HYE:Hid (∀ a b s,popM m 2 = .ok ([a,b],{ m with stack:=s }) → ∀ sv5 L5 w5,MA w5 p { m with stack:=s } cv sv5 V L5 C → Next p sv w sv5 w5 → ∀ y W,binaryM op a b = .error y → Below w5.heap.size w5 W → ResP (binM m op) p m cv sv V C w (.panicked [{ v:=badV y.1 y.2,recovered:=false }]) W):=fun a b s e sv5 L5 w5 hm hn y W hy hb=>by
  unfold binM
  rw [e]
  simp only [List.headD_cons,List.getD_cons_succ,List.getD_cons_zero]
  rw [hy]
  exact ⟨rfl,sv5,L5,(hm.below hb).stk m.stack,hn.trans (Next.of_below hb)⟩
 have HYO:Hid (∀ a b s c,popM m 2 = .ok ([a,b],{ m with stack:=s }) → binaryM op a b = .ok c → ∀ e W,ResP (pushM { m with stack:=s } c) p m cv sv V C w e W → ResP (binM m op) p m cv sv V C w e W):=fun a b s c e hc e2 W hr=>by
  unfold binM
  rw [e]
  simp only [List.headD_cons,List.getD_cons_succ,List.getD_cons_zero]
  rw [hc]
  exact hr
 have HPK:=Lib.hid (fun W h=>popk_any p m cv sv V L C 2 W h hs (by omega) (by omega))
 generalize binM m op = R at *
 have HSH:=Lib.hid hsh
 clear h hs hsh ho
 go_enter Tryz.func61,Tryz.ntmps61
 go_upto_region 1 with fail
 have hb1:=blk_new w (iO ⟨⟨op,arg,num,t⟩,r⟩)
 have HB1:Hid (Below w.heap.size w (w.alloc (iO ⟨⟨op,arg,num,t⟩,r⟩))):=(Below.refl _ _).alloc (Nat.le_refl _) _
 have HM1:=Lib.hid (HM.out.below HB1.out)
 change Code.wp _ _ _ _ (w.alloc (iO ⟨⟨op,arg,num,t⟩,r⟩))
 generalize w.alloc (iO ⟨⟨op,arg,num,t⟩,r⟩) = w1 at *
 have x0:=blk_cell (hb1) 0
 have x1:=blk_cell (hb1) 1
 have x2:=blk_cell (hb1) 2
 have x3:=blk_cell (hb1) 3
 have xl:=blk_lt (hb1)
 simp only [List.getElem?_toArray,List.getElem?_cons_zero,List.getElem?_cons_succ] at x0 x1 x2 x3
 have HX1:=Lib.hid hb1
 clear hb1
 go_upto_region 3 with (go_at_call 85;refine (HPK.out _ HM1.out).mono ?_;rintro e w5 hres;rcases hres with ⟨hn,rfl,rfl⟩ | ⟨vs,s,v,sv5,Lv,L5,hpm,hms,rfl,hvv,hok,hmp,hlk,hm5,hs5,hn5⟩;exact ⟨rfl,HNO.out hn _ HB1.out⟩)
 have HN5:=Lib.hid ((Next.of_below HB1.out).trans hn5)
 have HPM:=Lib.hid hpm
 have HMS:=Lib.hid hms
 have yb:=HM.out.box HX1.out hn5
 have y0:w5.drew.cell? ⟨w.heap.size,0,none⟩ = some (.int .i64 op):=blk_cell (w:=w5.drew) yb 0
 have yl:w.heap.size < w5.drew.heap.size:=blk_lt yb
 have HM5:=Lib.hid hm5
 have HS5:=Lib.hid hs5
 clear hpm hms hm5 hs5 hn5 yb
 match Lv,hlk,hmp,hvv,hok with
 | [(a,ra),(b,rb)],_,hmp,hvv,hok =>
  have hna:=hok (a,ra) (by simp)
  have hnb:=hok (b,rb) (by simp)
  have hvv2:VV w5.drew v [(a,ra),(b,rb)]:=hvv
  obtain ⟨a0,c0,rfl⟩:=hvv2.slice
  obtain ⟨-,hn1,hn2,g0,off,rfl,hgl,k0,k1,k2⟩:=hvv2.at (j:=0) rfl
  obtain ⟨-,-,-,g1,off1,hgo,hgl1,k3,k4,k5⟩:=hvv2.at (j:=1) rfl
  cases hgo
  simp only [Nat.zero_mul,Nat.add_zero,Nat.one_mul] at k0 k1 k2 k3 k4 k5
  unfold maxLen at hn2
  simp only [List.length_cons,List.length_nil] at hn1 hn2
  have hvs:vs = [a,b]:=hmp.symm
  subst hvs
  have HBI:=Lib.hid (fun W=>binary_any op a b ra rb W hna hnb (shown_few (HSH.out a (HMS.out a (by simp)))) (shown_few (HSH.out b (HMS.out b (by simp)))))
  clear hvv hvv2 hok hmp hna hnb
  obtain ⟨ia,ta,na⟩:=a
  obtain ⟨ib,tb,nb⟩:=b
  simp only at k0 k1 k2 k3 k4 k5 HBI
  go_region_law
   (go_simp
    first
    | (go_at_call 92
       refine (HBI.out _).mono ?_
       rintro e w6 hres
       rcases hres.ways with ⟨y,hy,rfl,hb⟩ | ⟨c,rc,hc,rfl,hrc,hb⟩
       · go_wp2_with fail
         exact ⟨rfl,HYE.out _ _ _ HPM.out _ _ _ HM5.out HN5.out _ _ hy ((Below.refl _ w5).drew.trans hb)⟩
       have HC:=Lib.hid hc
       have HRC:=Lib.hid hrc
       have HB6:Hid (Below w5.heap.size w5 w6):=(Below.refl _ w5).drew.trans hb
       clear hc hrc hb hres)
    | (go_at_call 39
       refine (push_behind HM5.out HS5.out HN5.out c rfl HB6.out HRC.out).mono ?_
       rintro e w7 hres
       have hx2:=HYO.out _ _ _ _ HPM.out HC.out _ _ hres
       rcases hres.ways with ⟨rfl,hx⟩ | ⟨ch,rfl,hx⟩
       rotate_left
       · go_wp2_with fail
         exact ⟨rfl,hx2⟩
       have HX:=Lib.hid hx2
       clear hx hres hx2))
  all_goals
   go_wp2_with fail
   go_end0
   exact HX.out
 | [],h,_,_,_=>simp at h
 | [_],h,_,_,_=>simp at h
 | _ :: _ :: _ :: _,h,_,_,_=>simp at h
theorem do_any (p:Nat) (m:Mac) (cv sv:Value) (V L:Vs) (C:Is) (x:Ins) (r:Nat) (many:Nat) (w:World) (h:MA w p m cv sv V L C) (hs:L.map (·.1) = m.stack) (hsh:Short m.stack) (hr:NumOk (numV x.num) r) (hf:fairM x many = true) :
  Calls Tryz.prog 61 #[.pointer (some ⟨p,0,none⟩),iV ⟨x,r⟩] w (ResP (doM m x) p m cv sv V C w):=by
 obtain ⟨op,arg,num,t⟩:=x
 unfold doM
 simp only
 by_cases e0:op = 0
 ·subst e0
  rw [if_pos rfl]
  exact do_halt p m cv sv V L C arg num t r w h hs
 rw [if_neg e0]
 by_cases e1:op = 1
 ·subst e1
  rw [if_pos rfl]
  exact do_num p m cv sv V L C arg num t r w h hs hr
 rw [if_neg e1]
 by_cases e2:op = 2
 ·subst e2
  rw [if_pos rfl]
  exact do_text p m cv sv V L C arg num t r w h hs
 rw [if_neg e2]
 by_cases e3:op = 3
 ·subst e3
  rw [if_pos rfl]
  unfold fairM at hf
  rw [if_pos (.inl rfl),Bool.and_eq_true,decide_eq_true_eq,decide_eq_true_eq] at hf
  simp only at hf
  obtain ⟨k,rfl⟩:∃ k:Nat,arg = k:=⟨arg.toNat,by omega⟩
  have hk:k < 64:=by omega
  obtain ⟨⟨a,ra⟩,hV⟩:∃ y,V[k]? = some y:=⟨_,List.getElem?_eq_getElem (by have:=h.v64;omega)⟩
  have ha:m.vars.getD (k:Int).toNat zeroV = a:=by
   rw [Int.toNat_natCast,List.getD_eq_getElem?_getD,← h.vars,List.getElem?_map,hV]
   rfl
  rw [ha]
  exact do_load p m cv sv V L C k hk a ra hV num t r w h hs
 rw [if_neg e3]
 by_cases e4:op = 4
 ·subst e4
  rw [if_pos rfl]
  unfold fairM at hf
  rw [if_pos (.inr rfl),Bool.and_eq_true,decide_eq_true_eq,decide_eq_true_eq] at hf
  simp only at hf
  obtain ⟨k,rfl⟩:∃ k:Nat,arg = k:=⟨arg.toNat,by omega⟩
  exact do_store p m cv sv V L C k (by omega) num t r w h hs
 rw [if_neg e4]
 by_cases e18:op = 18
 ·subst e18
  rw [if_pos rfl]
  exact do_drop p m cv sv V L C arg num t r w h hs
 rw [if_neg e18]
 by_cases e15:op = 15
 ·subst e15
  rw [if_pos rfl]
  exact do_jump p m cv sv V L C arg num t r w h hs
 rw [if_neg e15]
 by_cases e16:op = 16
 ·subst e16
  rw [if_pos rfl]
  exact do_skip p m cv sv V L C arg num t r w h hs
 rw [if_neg e16]
 by_cases e5:op = 5
 ·subst e5
  rw [if_pos rfl]
  exact do_neg p m cv sv V L C arg num t r w h hs
 rw [if_neg e5]
 by_cases e6:op = 6
 ·subst e6
  rw [if_pos rfl]
  exact do_not p m cv sv V L C arg num t r w h hs
 rw [if_neg e6]
 by_cases e17:op = 17
 ·subst e17
  rw [if_pos rfl]
  unfold fairM at hf
  rw [if_neg (by simp),if_neg (by simp),if_pos rfl] at hf
  simp only at hf
  cases hN:argN t with
  | none=>rw [hN] at hf;cases hf
  | some q =>
   rw [hN] at hf
   have hq:q = arg:=eq_of_beq hf
   subst hq
   have hk:=argN_few hN
   obtain ⟨k,rfl⟩:∃ k:Nat,q = k:=⟨q.toNat,by omega⟩
   exact do_ask p m cv sv V L C k num t r w h hs hsh hN
 rw [if_neg e17]
 by_cases e19:op = 19
 ·subst e19
  rw [if_pos rfl]
  exact do_fail p m cv sv V L C arg num t r w h hs
 rw [if_neg e19]
 unfold fairM at hf
 rw [if_neg (by simp only;omega),if_neg (by simp only;omega),if_neg (by simp only;omega),Bool.and_eq_true,decide_eq_true_eq,decide_eq_true_eq] at hf
 simp only at hf
 exact do_bin p m cv sv V L C op arg num t r w h hs hsh ⟨by omega,by omega⟩
theorem assert_bad (c:Int) (t:List UInt8) (w:World):(Instr.typeAssert (badV c t) 20 113 true).run Tryz.prog w = .ok (.tuple #[.agg #[.int .i64 c,.string ⟨t.toArray⟩],.bool true]) w:=by kernel_rfl
theorem neq_bad (c:Int) (t:List UInt8) (w:World):(binOp .neq 20 (badV c t) .nilIface).run Tryz.prog w = .ok (.bool true) w:=by kernel_rfl
set_option maxHeartbeats 1000000 in
theorem caught_panic (p:Nat) (m:Mac) (cv sv:Value) (V L:Vs) (C:Is) (c:Int) (t:List UInt8) (w:World) (h:MA w p m cv sv V L C) :
  CallsD Tryz.prog 38 #[.pointer (some ⟨p,0,none⟩)] (.panicking [{ v:=badV c t,recovered:=false }]) w fun e u' w'=>e = .returned (.tuple #[]) ∧ u' = .panicking [{ v:=badV c t,recovered:=true }] ∧
   MA w' p (failM m (c,t)) cv sv V L C ∧ Next p sv w sv w':=by
 have HM:=Lib.hid h
 have hta:=assert_bad c t
 have c0:=h.t 197 0 rfl rfl
 have c1:w.cell? ⟨p,207,none⟩ = some (.int .i64 m.errno):=h.t 207 10 rfl rfl
 have c2:w.cell? ⟨p,208,none⟩ = some (.string ⟨m.text.toArray⟩):=h.t 208 11 rfl rfl
 have f0:=h.free 197
 have f1:=h.free 207
 have f2:=h.free 208
 have hpl:=blk_lt h.obj
 clear h
 refine callsD_of_wpS Tryz.func38 rfl fun c₀ cs hu => ?_
 apply wpS_seq
 apply wpS_region
 simp [wpOpsS,go_sem,recoverD,hu,Tryz.ntmps38,Exit.thenS]
 refine wpS_of_wp ?_
 simp only [Array.replicate_succ,Array.replicate_zero,List.push_toArray,List.nil_append,List.cons_append,List.append_toArray,List.setIfInBounds_toArray,List.set_cons_succ,List.set_cons_zero]
 have hnq:=neq_bad c t
 clear hu
 go_wp2_with fail
 go_region
 all_goals
  go_wp2_with fail
  have HMF:Hid (MA ((((w.setCell ⟨p,197,none⟩ (.int .i64 3)).setCell ⟨p,207,none⟩ (.int .i64 c)).setCell ⟨p,208,none⟩ (.string ⟨t.toArray⟩)).alloc (.cells #[.int .i64 c,.string ⟨t.toArray⟩] 113 (0,0))).drew p (failM m (c,t)) cv sv V L C):=by
   have h64:=HM.out.v64
   refine MA.drew (MA.below (MA.poke HM.out ?_ ?_ rfl rfl) ((Below.refl _ _).alloc (Nat.le_refl _) _))
   ·exact (((Turned.refl _ _).setCell (by simp) _).setCell (by simp) _).setCell (by simp) _
   ·exact row_put h64 (row_put h64 (row_put h64 HM.out.obj 197 0 rfl _) 207 10 rfl _) 208 11 rfl _
  have HTF:Hid (Next p sv w sv ((((w.setCell ⟨p,197,none⟩ (.int .i64 3)).setCell ⟨p,207,none⟩ (.int .i64 c)).setCell ⟨p,208,none⟩ (.string ⟨t.toArray⟩)).alloc (.cells #[.int .i64 c,.string ⟨t.toArray⟩] 113 (0,0))).drew):=
   Next.of_turned (((((Turned.refl _ _).setCell (by simp) _).setCell (by simp) _).setCell (by simp) _).alloc _).drew
  generalize ((((w.setCell ⟨p,197,none⟩ (.int .i64 3)).setCell ⟨p,207,none⟩ (.int .i64 c)).setCell ⟨p,208,none⟩ (.string ⟨t.toArray⟩)).alloc (.cells #[.int .i64 c,.string ⟨t.toArray⟩] 113 (0,0))).drew = wf at *
  simp [bodyPostS,results,Tryz.results38]
  exact ⟨HMF.out,HTF.out⟩
theorem caught_idle (p:Nat) (w:World) :
  CallsD Tryz.prog 38 #[.pointer (some ⟨p,0,none⟩)] .returning w fun e u' w'=>e = .returned (.tuple #[]) ∧ u' = .returning ∧ w' = w:=by
 refine callsD_of_wpS Tryz.func38 rfl fun c₀ cs hu => ?_
 apply wpS_seq
 apply wpS_region
 simp [wpOpsS,go_sem,recoverD,hu,Tryz.ntmps38,Exit.thenS]
 refine wpS_of_wp ?_
 simp only [Array.replicate_succ,Array.replicate_zero,List.push_toArray,List.nil_append,List.cons_append,List.append_toArray,List.setIfInBounds_toArray,List.set_cons_succ,List.set_cons_zero]
 have hnq:∀ w,(binOp .neq 20 .nilIface .nilIface).run Tryz.prog w = .ok (.bool false) w:=fun w=>by kernel_rfl
 go_wp2_with fail
 cases c₀
 simp_all [bodyPostS,results,Tryz.results38]
end Go.Proofs.YtmfpmandkhiknaaGreatDoor.vmm
