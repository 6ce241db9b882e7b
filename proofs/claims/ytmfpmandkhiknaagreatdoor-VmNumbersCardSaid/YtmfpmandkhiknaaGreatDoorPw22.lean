/-
  Proved: what Run, Error, Ran and Vars return. Conditions: as each theorem says.
  Proved: what Error, Ran and Vars return. Conditions: as each theorem says.
  Proved: an answer is given to a machine that asks. Conditions: as each theorem says.
-/
import Derived.Test.YtmfpmandkhiknaaGreatDoorPw21
set_option linter.unusedVariables false
set_option linter.unusedSimpArgs false
namespace Go.Proofs.YtmfpmandkhiknaaGreatDoor.vmm
open Go Go.RowKit Ieee
open flt heap
open lex (run_store_float add0)
set_option maxRecDepth 100000
attribute [local go_sem] run_store_float
def MAt (w:World) (p:Nat) (m:Mac) (cv sv:Value) (C:Is):Prop:=∃ V L,MA w p m cv sv V L C ∧ (m.state ≠ 3 → L.map (·.1) = m.stack) ∧ Fit m
theorem MAt.below {w w':World} {p:Nat} {m:Mac} {cv sv:Value} {C:Is} (h:MAt w p m cv sv C) (hb:Below w.heap.size w w'):MAt w' p m cv sv C:=by
 obtain ⟨V,L,h1,h2,h3⟩:=h
 exact ⟨V,L,h1.below hb,h2,h3⟩
theorem MA.far {w w':World} {p b:Nat} {m:Mac} {cv sv:Value} {V L:Vs} {C:Is} (h:MA w p m cv sv V L C) (ht:Turned [b] w w') (hp:p ≠ b) (hs:b ∉ sv.ownBlock.toList) (hc:b ∉ cv.ownBlock.toList):MA w' p m cv sv V L C:=
 ⟨ht.kept h.obj (by simp;exact hp),h.v64,h.vars,h.vok,h.lok,h.row.kept (fun g o hg hb=>ht.kept hb (by
  simp
  rintro rfl
  exact hs (by rw [hg];simp))),h.few,h.ins.kept (fun g o hg hb=>ht.kept hb (by
  simp
  rintro rfl
  exact hc (by rw [hg];simp))),h.code,h.iok⟩
theorem Next.upto {p:Nat} {sv sv':Value} {w w1 w2:World} (h:Next p sv w sv' w1) (hb:Below w.heap.size w1 w2):Next p sv w sv' w2:=
 ⟨⟨hb.os.trans h.1.os,hb.tape.trans h.1.tape,hb.output.trans h.1.output,Nat.le_trans h.1.size hb.size,fun k hk hn=>by rw [hb.block k hk];exact h.1.block k hk hn⟩,h.2⟩
theorem MA.above {w w1 w5:World} {p:Nat} {m m5:Mac} {cv sv sv5:Value} {V V5 L L5:Vs} {C:Is} (h:MA w p m cv sv V L C) (h5:MA w5 p m5 cv sv5 V5 L5 C) (hn:Next p sv w1 sv5 w5) (hs:w.heap.size < w1.heap.size):p ≠ w.heap.size ∧ w.heap.size ∉ sv5.ownBlock.toList ∧ w.heap.size ∉ cv.ownBlock.toList:=by
 have h1:=blk_lt h.obj
 refine ⟨by omega,fun hm => ?_,fun hm => ?_⟩
 ·rcases hn.2 _ hm with e | e
  ·have:=(h.row.own_lt _ e).2;omega
  ·omega
 ·have:=(h.ne_ins _ hm).1;omega
theorem heap_drew {W:World} {b:Nat} {o:Obj} (h:W.heap[b]? = some o):W.drew.heap[b]? = some o:=h
theorem res8 {W:World} {b:Nat} {u0 u1 u2 u3 u4 u5 u6 u7:Value} {t:TypeId} (h:W.heap[b]? = some (.cells #[u0,u1,u2,u3,u4,u5,u6,u7] t (0,0))) (x0 x1 x2 x3 x4 x5 x6 x7:Value):((((((((W.setCell ⟨b,0,none⟩ x0).setCell ⟨b,1,none⟩ x1).setCell ⟨b,2,none⟩ x2).setCell ⟨b,3,none⟩ x3).setCell ⟨b,4,none⟩ x4).setCell ⟨b,5,none⟩ x5).setCell ⟨b,6,none⟩ x6).setCell ⟨b,7,none⟩ x7).heap[b]? = some (.cells #[x0,x1,x2,x3,x4,x5,x6,x7] t (0,0)):=by
 have:=(blk_set (blk_set (blk_set (blk_set (blk_set (blk_set (blk_set (blk_set h 0 x0) 1 x1) 2 x2) 3 x3) 4 x4) 5 x5) 6 x6) 7 x7)
 simp only [List.setIfInBounds_toArray,List.set_cons_succ,List.set_cons_zero] at this
 exact this
set_option maxHeartbeats 2000000 in
theorem Run_any (p:Nat) (m:Mac) (cv sv:Value) (C:Is) (n:Nat) (w:World) (h:MAt w p m cv sv C) (hn:m.fuel < n) :
  Calls Tryz.prog 15 #[.pointer (some ⟨p,0,none⟩)] w fun e w'=>∃ sv',e = .returned (.tuple #[.int .i64 (runM n m).state,cA (runM n m).call]) ∧ MAt w' p (runM n m) cv sv' C ∧ Next p sv w sv' w':=by
 obtain ⟨V,L,h1,h2,h3⟩:=h
 have HZ:=Lib.hid (blk_new w (cO noCal))
 have HB0:Hid (Below w.heap.size w (w.alloc (cO noCal))):=(Below.refl _ _).alloc (Nat.le_refl _) _
 have HM:=Lib.hid (h1.below HB0.out)
 by_cases hst:m.state = 0
 ·have HRUN:=Lib.hid (fun W hm=>run_any p m cv sv V L C n W hm (h2 (by rw [hst];decide)) h3 hn)
  have HFI:=Lib.hid (h3.run n)
  have hsb:(m.state == 0) = true:=by rw [hst];rfl
  generalize runM n m = mF at *
  have HSZ:Hid (w.heap.size < (w.alloc (cO noCal)).heap.size):=by unfold Hid;simp
  clear h2 h3 hn
  go_enter Tryz.func15,Tryz.ntmps15
  go_upto_region 3 with fail
  change Code.wp _ _ _ _ (w.alloc (cO noCal))
  generalize w.alloc (cO noCal) = w1 at *
  have q0:=HM.out.t 197 0 rfl rfl
  rw [hst] at q0
  have hpl:=blk_lt HM.out.obj
  have H1:=Lib.hid h1
  clear h1
  go_upto_region 5 with (go_at_call 37;refine (HRUN.out _ HM.out).mono ?_;rintro e w5 ⟨rfl,sv5,V5,L5,hm5,hs5,hn5⟩;have HM5:=Lib.hid hm5;have HS5:=Lib.hid hs5;have HZ5:=Lib.hid (H1.out.box HZ.out hn5);have HN5:=Lib.hid hn5;clear hm5 hs5 hn5)
  clear q0 hpl
  have q0:=HM5.out.t 197 0 rfl rfl
  obtain ⟨-,q1,q2,q3,q4,q5,q6,q7,q8,-⟩:=HM5.out.tails
  have hpl:=blk_lt HM5.out.obj
  have z0:=blk_cell (HZ5.out) 0
  have z1:=blk_cell (HZ5.out) 1
  have z2:=blk_cell (HZ5.out) 2
  have z3:=blk_cell (HZ5.out) 3
  have z4:=blk_cell (HZ5.out) 4
  have z5:=blk_cell (HZ5.out) 5
  have z6:=blk_cell (HZ5.out) 6
  have z7:=blk_cell (HZ5.out) 7
  have zf0:=blk_free (HZ5.out) 0
  have zf1:=blk_free (HZ5.out) 1
  have zf2:=blk_free (HZ5.out) 2
  have zf3:=blk_free (HZ5.out) 3
  have zf4:=blk_free (HZ5.out) 4
  have zf5:=blk_free (HZ5.out) 5
  have zf6:=blk_free (HZ5.out) 6
  have zf7:=blk_free (HZ5.out) 7
  have zl:=blk_lt (HZ5.out)
  simp only [List.getElem?_toArray,List.getElem?_cons_zero,List.getElem?_cons_succ] at z0 z1 z2 z3 z4 z5 z6 z7
  simp only [List.getElem?_toArray,List.getElem?_cons_zero,List.getElem?_cons_succ,noCal] at z0 z1 z2 z3 z4 z5 z6 z7
  go_wp2_with fail
  go_region_law (go_simp;fail)
  all_goals
   go_wp2_with fail
   have h8':((((((((w5.setCell ⟨w.heap.size,0,none⟩ (.int .i64 mF.call.op)).setCell ⟨w.heap.size,1,none⟩ (.string ⟨mF.call.path.toArray⟩)).setCell ⟨w.heap.size,2,none⟩ (.string ⟨mF.call.path2.toArray⟩)).setCell ⟨w.heap.size,3,none⟩ (.int .i64 mF.call.fd)).setCell ⟨w.heap.size,4,none⟩ (.int .i64 mF.call.off)).setCell ⟨w.heap.size,5,none⟩ (.int .i64 mF.call.num)).setCell ⟨w.heap.size,6,none⟩ (.int .i64 mF.call.mode)).setCell ⟨w.heap.size,7,none⟩ (.string ⟨mF.call.data.toArray⟩)).heap[w.heap.size]? = some (cO mF.call):=res8 HZ5.out _ _ _ _ _ _ _ _
   have h8:((((((((w5.setCell ⟨w.heap.size,0,none⟩ (.int .i64 mF.call.op)).setCell ⟨w.heap.size,1,none⟩ (.string ⟨mF.call.path.toArray⟩)).setCell ⟨w.heap.size,2,none⟩ (.string ⟨mF.call.path2.toArray⟩)).setCell ⟨w.heap.size,3,none⟩ (.int .i64 mF.call.fd)).setCell ⟨w.heap.size,4,none⟩ (.int .i64 mF.call.off)).setCell ⟨w.heap.size,5,none⟩ (.int .i64 mF.call.num)).setCell ⟨w.heap.size,6,none⟩ (.int .i64 mF.call.mode)).setCell ⟨w.heap.size,7,none⟩ (.string ⟨mF.call.data.toArray⟩)).drew.heap[w.heap.size]? = some (cO mF.call):=heap_drew h8'
   clear h8'
   have ht8:Turned [w.heap.size] w5 ((((((((w5.setCell ⟨w.heap.size,0,none⟩ (.int .i64 mF.call.op)).setCell ⟨w.heap.size,1,none⟩ (.string ⟨mF.call.path.toArray⟩)).setCell ⟨w.heap.size,2,none⟩ (.string ⟨mF.call.path2.toArray⟩)).setCell ⟨w.heap.size,3,none⟩ (.int .i64 mF.call.fd)).setCell ⟨w.heap.size,4,none⟩ (.int .i64 mF.call.off)).setCell ⟨w.heap.size,5,none⟩ (.int .i64 mF.call.num)).setCell ⟨w.heap.size,6,none⟩ (.int .i64 mF.call.mode)).setCell ⟨w.heap.size,7,none⟩ (.string ⟨mF.call.data.toArray⟩)).drew:=(((((((((Turned.refl [w.heap.size] w5).setCell (by simp) _).setCell (by simp) _).setCell (by simp) _).setCell (by simp) _).setCell (by simp) _).setCell (by simp) _).setCell (by simp) _).setCell (by simp) _).drew
   have hb8:Below w.heap.size w5 ((((((((w5.setCell ⟨w.heap.size,0,none⟩ (.int .i64 mF.call.op)).setCell ⟨w.heap.size,1,none⟩ (.string ⟨mF.call.path.toArray⟩)).setCell ⟨w.heap.size,2,none⟩ (.string ⟨mF.call.path2.toArray⟩)).setCell ⟨w.heap.size,3,none⟩ (.int .i64 mF.call.fd)).setCell ⟨w.heap.size,4,none⟩ (.int .i64 mF.call.off)).setCell ⟨w.heap.size,5,none⟩ (.int .i64 mF.call.num)).setCell ⟨w.heap.size,6,none⟩ (.int .i64 mF.call.mode)).setCell ⟨w.heap.size,7,none⟩ (.string ⟨mF.call.data.toArray⟩)).drew:=(((((((((Below.refl w.heap.size w5).setCell (by simp) _).setCell (by simp) _).setCell (by simp) _).setCell (by simp) _).setCell (by simp) _).setCell (by simp) _).setCell (by simp) _).setCell (by simp) _).drew
   generalize ((((((((w5.setCell ⟨w.heap.size,0,none⟩ (.int .i64 mF.call.op)).setCell ⟨w.heap.size,1,none⟩ (.string ⟨mF.call.path.toArray⟩)).setCell ⟨w.heap.size,2,none⟩ (.string ⟨mF.call.path2.toArray⟩)).setCell ⟨w.heap.size,3,none⟩ (.int .i64 mF.call.fd)).setCell ⟨w.heap.size,4,none⟩ (.int .i64 mF.call.off)).setCell ⟨w.heap.size,5,none⟩ (.int .i64 mF.call.num)).setCell ⟨w.heap.size,6,none⟩ (.int .i64 mF.call.mode)).setCell ⟨w.heap.size,7,none⟩ (.string ⟨mF.call.data.toArray⟩)).drew = w8 at *
   clear z0 z1 z2 z3 z4 z5 z6 z7
   have y0:=blk_cell (h8) 0
   have y1:=blk_cell (h8) 1
   have y2:=blk_cell (h8) 2
   have y3:=blk_cell (h8) 3
   have y4:=blk_cell (h8) 4
   have y5:=blk_cell (h8) 5
   have y6:=blk_cell (h8) 6
   have y7:=blk_cell (h8) 7
   have yf0:=blk_free (h8) 0
   have yf1:=blk_free (h8) 1
   have yf2:=blk_free (h8) 2
   have yf3:=blk_free (h8) 3
   have yf4:=blk_free (h8) 4
   have yf5:=blk_free (h8) 5
   have yf6:=blk_free (h8) 6
   have yf7:=blk_free (h8) 7
   have yl:=blk_lt (h8)
   simp only [List.getElem?_toArray,List.getElem?_cons_zero,List.getElem?_cons_succ] at y0 y1 y2 y3 y4 y5 y6 y7
   have ha:=H1.out.above HM5.out HN5.out HSZ.out
   exact bodyPost_ret (v:=.tuple #[.int .i64 mF.state,cA mF.call]) (by simp [results,Tryz.results15,go_sem,y0,y1,y2,y3,y4,y5,y6,y7]) rfl ⟨sv5,rfl,⟨V5,L5,HM5.out.far ht8 ha.1 ha.2.1 ha.2.2,HS5.out,HFI.out⟩,((Next.of_below HB0.out).trans HN5.out).upto hb8⟩
 ·have hsb:(m.state == 0) = false:=beq_eq_false_iff_ne.2 hst
  have hF:runM n m = m:=run_stop hst n
  rw [hF]
  obtain ⟨mF,hmF⟩:∃ mF,mF = m:=⟨_,rfl⟩
  subst hmF
  have HSZ:Hid (w.heap.size < (w.alloc (cO noCal)).heap.size):=by unfold Hid;simp
  have HFI:=Lib.hid h3
  have HS5:=Lib.hid h2
  clear h2 h3 hn hF
  go_enter Tryz.func15,Tryz.ntmps15
  go_upto_region 3 with fail
  change Code.wp _ _ _ _ (w.alloc (cO noCal))
  generalize w.alloc (cO noCal) = w5 at *
  obtain ⟨V5,hV5⟩:∃ V5,V5 = V:=⟨_,rfl⟩
  subst hV5
  obtain ⟨L5,hL5⟩:∃ L5,L5 = L:=⟨_,rfl⟩
  subst hL5
  obtain ⟨sv5,hsv5⟩:∃ sv5,sv5 = sv:=⟨_,rfl⟩
  subst hsv5
  have HM5:=HM
  have HZ5:=HZ
  have HN5:Hid (Next p sv5 w5 sv5 w5):=Next.refl _ _ _
  have H1:=Lib.hid h1
  clear h1
  have q0:=HM5.out.t 197 0 rfl rfl
  obtain ⟨-,q1,q2,q3,q4,q5,q6,q7,q8,-⟩:=HM5.out.tails
  have hpl:=blk_lt HM5.out.obj
  have z0:=blk_cell (HZ5.out) 0
  have z1:=blk_cell (HZ5.out) 1
  have z2:=blk_cell (HZ5.out) 2
  have z3:=blk_cell (HZ5.out) 3
  have z4:=blk_cell (HZ5.out) 4
  have z5:=blk_cell (HZ5.out) 5
  have z6:=blk_cell (HZ5.out) 6
  have z7:=blk_cell (HZ5.out) 7
  have zf0:=blk_free (HZ5.out) 0
  have zf1:=blk_free (HZ5.out) 1
  have zf2:=blk_free (HZ5.out) 2
  have zf3:=blk_free (HZ5.out) 3
  have zf4:=blk_free (HZ5.out) 4
  have zf5:=blk_free (HZ5.out) 5
  have zf6:=blk_free (HZ5.out) 6
  have zf7:=blk_free (HZ5.out) 7
  have zl:=blk_lt (HZ5.out)
  simp only [List.getElem?_toArray,List.getElem?_cons_zero,List.getElem?_cons_succ] at z0 z1 z2 z3 z4 z5 z6 z7
  simp only [List.getElem?_toArray,List.getElem?_cons_zero,List.getElem?_cons_succ,noCal] at z0 z1 z2 z3 z4 z5 z6 z7
  go_wp2_with fail
  go_region_law (go_simp;fail)
  all_goals
   go_wp2_with fail
   have h8':((((((((w5.setCell ⟨w.heap.size,0,none⟩ (.int .i64 mF.call.op)).setCell ⟨w.heap.size,1,none⟩ (.string ⟨mF.call.path.toArray⟩)).setCell ⟨w.heap.size,2,none⟩ (.string ⟨mF.call.path2.toArray⟩)).setCell ⟨w.heap.size,3,none⟩ (.int .i64 mF.call.fd)).setCell ⟨w.heap.size,4,none⟩ (.int .i64 mF.call.off)).setCell ⟨w.heap.size,5,none⟩ (.int .i64 mF.call.num)).setCell ⟨w.heap.size,6,none⟩ (.int .i64 mF.call.mode)).setCell ⟨w.heap.size,7,none⟩ (.string ⟨mF.call.data.toArray⟩)).heap[w.heap.size]? = some (cO mF.call):=res8 HZ5.out _ _ _ _ _ _ _ _
   have h8:((((((((w5.setCell ⟨w.heap.size,0,none⟩ (.int .i64 mF.call.op)).setCell ⟨w.heap.size,1,none⟩ (.string ⟨mF.call.path.toArray⟩)).setCell ⟨w.heap.size,2,none⟩ (.string ⟨mF.call.path2.toArray⟩)).setCell ⟨w.heap.size,3,none⟩ (.int .i64 mF.call.fd)).setCell ⟨w.heap.size,4,none⟩ (.int .i64 mF.call.off)).setCell ⟨w.heap.size,5,none⟩ (.int .i64 mF.call.num)).setCell ⟨w.heap.size,6,none⟩ (.int .i64 mF.call.mode)).setCell ⟨w.heap.size,7,none⟩ (.string ⟨mF.call.data.toArray⟩)).drew.heap[w.heap.size]? = some (cO mF.call):=heap_drew h8'
   clear h8'
   have ht8:Turned [w.heap.size] w5 ((((((((w5.setCell ⟨w.heap.size,0,none⟩ (.int .i64 mF.call.op)).setCell ⟨w.heap.size,1,none⟩ (.string ⟨mF.call.path.toArray⟩)).setCell ⟨w.heap.size,2,none⟩ (.string ⟨mF.call.path2.toArray⟩)).setCell ⟨w.heap.size,3,none⟩ (.int .i64 mF.call.fd)).setCell ⟨w.heap.size,4,none⟩ (.int .i64 mF.call.off)).setCell ⟨w.heap.size,5,none⟩ (.int .i64 mF.call.num)).setCell ⟨w.heap.size,6,none⟩ (.int .i64 mF.call.mode)).setCell ⟨w.heap.size,7,none⟩ (.string ⟨mF.call.data.toArray⟩)).drew:=(((((((((Turned.refl [w.heap.size] w5).setCell (by simp) _).setCell (by simp) _).setCell (by simp) _).setCell (by simp) _).setCell (by simp) _).setCell (by simp) _).setCell (by simp) _).setCell (by simp) _).drew
   have hb8:Below w.heap.size w5 ((((((((w5.setCell ⟨w.heap.size,0,none⟩ (.int .i64 mF.call.op)).setCell ⟨w.heap.size,1,none⟩ (.string ⟨mF.call.path.toArray⟩)).setCell ⟨w.heap.size,2,none⟩ (.string ⟨mF.call.path2.toArray⟩)).setCell ⟨w.heap.size,3,none⟩ (.int .i64 mF.call.fd)).setCell ⟨w.heap.size,4,none⟩ (.int .i64 mF.call.off)).setCell ⟨w.heap.size,5,none⟩ (.int .i64 mF.call.num)).setCell ⟨w.heap.size,6,none⟩ (.int .i64 mF.call.mode)).setCell ⟨w.heap.size,7,none⟩ (.string ⟨mF.call.data.toArray⟩)).drew:=(((((((((Below.refl w.heap.size w5).setCell (by simp) _).setCell (by simp) _).setCell (by simp) _).setCell (by simp) _).setCell (by simp) _).setCell (by simp) _).setCell (by simp) _).setCell (by simp) _).drew
   generalize ((((((((w5.setCell ⟨w.heap.size,0,none⟩ (.int .i64 mF.call.op)).setCell ⟨w.heap.size,1,none⟩ (.string ⟨mF.call.path.toArray⟩)).setCell ⟨w.heap.size,2,none⟩ (.string ⟨mF.call.path2.toArray⟩)).setCell ⟨w.heap.size,3,none⟩ (.int .i64 mF.call.fd)).setCell ⟨w.heap.size,4,none⟩ (.int .i64 mF.call.off)).setCell ⟨w.heap.size,5,none⟩ (.int .i64 mF.call.num)).setCell ⟨w.heap.size,6,none⟩ (.int .i64 mF.call.mode)).setCell ⟨w.heap.size,7,none⟩ (.string ⟨mF.call.data.toArray⟩)).drew = w8 at *
   clear z0 z1 z2 z3 z4 z5 z6 z7
   have y0:=blk_cell (h8) 0
   have y1:=blk_cell (h8) 1
   have y2:=blk_cell (h8) 2
   have y3:=blk_cell (h8) 3
   have y4:=blk_cell (h8) 4
   have y5:=blk_cell (h8) 5
   have y6:=blk_cell (h8) 6
   have y7:=blk_cell (h8) 7
   have yf0:=blk_free (h8) 0
   have yf1:=blk_free (h8) 1
   have yf2:=blk_free (h8) 2
   have yf3:=blk_free (h8) 3
   have yf4:=blk_free (h8) 4
   have yf5:=blk_free (h8) 5
   have yf6:=blk_free (h8) 6
   have yf7:=blk_free (h8) 7
   have yl:=blk_lt (h8)
   simp only [List.getElem?_toArray,List.getElem?_cons_zero,List.getElem?_cons_succ] at y0 y1 y2 y3 y4 y5 y6 y7
   have ha:=H1.out.above HM5.out HN5.out HSZ.out
   exact bodyPost_ret (v:=.tuple #[.int .i64 mF.state,cA mF.call]) (by simp [results,Tryz.results15,go_sem,y0,y1,y2,y3,y4,y5,y6,y7]) rfl ⟨sv5,rfl,⟨V5,L5,HM5.out.far ht8 ha.1 ha.2.1 ha.2.2,HS5.out,HFI.out⟩,((Next.of_below HB0.out).trans HN5.out).upto hb8⟩
theorem Ran_any (p:Nat) (m:Mac) (cv sv:Value) (C:Is) (w:World) (h:MAt w p m cv sv C) :
  Calls Tryz.prog 17 #[.pointer (some ⟨p,0,none⟩)] w fun e w'=>e = .returned (.int .i64 m.ran) ∧ w = w':=by
 obtain ⟨V,L,h1,-,-⟩:=h
 have q3:w.cell? ⟨p,3,none⟩ = some (.int .i64 m.ran):=h1.cell 3
 have hpl:=blk_lt h1.obj
 clear h1
 go_enter Tryz.func17,Tryz.ntmps17
 go_wp2_with fail
 go_ret
 exact ⟨rfl,rfl⟩
theorem Error_any (p:Nat) (m:Mac) (cv sv:Value) (C:Is) (w:World) (h:MAt w p m cv sv C) :
  Calls Tryz.prog 16 #[.pointer (some ⟨p,0,none⟩)] w fun e w'=>e = .returned (.tuple #[.int .i64 m.errno,.string ⟨m.text.toArray⟩]) ∧ Below w.heap.size w w':=by
 obtain ⟨V,L,h1,-,-⟩:=h
 have q0:w.cell? ⟨p,207,none⟩ = some (.int .i64 m.errno):=h1.t 207 10 rfl rfl
 have q1:w.cell? ⟨p,208,none⟩ = some (.string ⟨m.text.toArray⟩):=h1.t 208 11 rfl rfl
 have hpl:=blk_lt h1.obj
 clear h1
 go_enter Tryz.func16,Tryz.ntmps16
 go_wp2_with fail
 go_quiet (fail)
 all_goals
  go_wp2_with fail
  go_ret2
  exact ⟨rfl,Below.drewN' w nq⟩
theorem Join_nil (w:World):Calls Tryz.prog 41 #[.slice none 0 0,.string ⟨#[47]⟩] w fun e w'=>e = .returned (.string ⟨#[]⟩) ∧ Below w.heap.size w w':=by
 go_enter Tryz.func41,Tryz.ntmps41
 go_wp2_with fail
 go_ret
 exact ⟨rfl,by first | exact Below.refl _ _ | exact (Below.refl _ _).alloc (Nat.le_refl _) _⟩
def nRead:List UInt8 := [114,101,97,100]
def nReadlink:List UInt8 := [114,101,97,100,108,105,110,107]
def nReadfd:List UInt8 := [114,101,97,100,102,100]
def nList:List UInt8 := [108,105,115,116]
def giveV (g:List UInt8) (i:Nat):Val:=if g = nRead ∨ g = nReadlink ∨ g = nReadfd ∨ g = nList then textV [] else numV (floatOfInt .f64 i)
def giveM (m:Mac) (i:Nat):Mac:=match pushM { m with state:=0,call:=noCal } (giveV m.asked i) with
 | .ok m2=>m2
 | .error e=>failM { m with state:=0,call:=noCal } e
abbrev ansV (i:Int):Value:=.agg #[.int .i64 0,.int .i64 i,.int .i64 0,.int .i64 0,.string ⟨#[]⟩,.slice none 0 0]
abbrev ansO (i:Int):Obj:=.cells #[.int .i64 0,.int .i64 i,.int .i64 0,.int .i64 0,.string ⟨#[]⟩,.slice none 0 0] 41 (0,0)
def GiveP (p:Nat) (mF:Mac) (cv sv:Value) (C:Is) (w:World) (e:Ending) (w':World):Prop:=∃ sv',e = .returned (.int .i64 0) ∧ MAt w' p mF cv sv' C ∧ Next p sv w sv' w'
theorem Fit.fail {m:Mac} (h:Fit m) (e:Bad):Fit (failM m e):=⟨h.pc0,h.pc1,h.few,h.fuel,h.ran,h.sum,h.fair,h.v64,h.sh,h.shv⟩
theorem Fit.push {m m2:Mac} {v:Val} (h:Fit m) (hp:pushM m v = .ok m2):Fit m2:=by
 obtain ⟨rfl,hv⟩:=push_keep hp
 refine ⟨h.pc0,h.pc1,h.few,h.fuel,h.ran,h.sum,h.fair,h.v64,fun x hx => ?_,h.shv⟩
 rcases List.mem_append.1 hx with e | e
 ·exact h.sh x e
 ·rw [List.mem_singleton.1 e];exact hv
def restM (m:Mac):Mac:={ m with state:=0,call:=noCal }
theorem Fit.rest {m:Mac} (h:Fit m):Fit (restM m):=⟨h.pc0,h.pc1,h.few,h.fuel,h.ran,h.sum,h.fair,h.v64,h.sh,h.shv⟩
def behindM (m:Mac) (X:Except Bad Mac):Mac:=match X with
 | .ok m2=>m2
 | .error e=>failM m e
set_option maxHeartbeats 2000000 in
theorem give_walk (p:Nat) (m:Mac) (cv sv:Value) (C:Is) (i:Nat) (w:World) (h:MAt w p m cv sv C) (hst:m.state = 1) (g:List UInt8) (hg:m.asked = g) (a:Val) (r:Nat) (ha:NumOk a r) (ia:Bool) (ta:List UInt8) (hia:a.isT = ia) (hta:a.text = ta)
  (hcase:(g = nRead ∧ ia = true ∧ ta = [] ∧ r = 0) ∨ (g = nReadlink ∧ ia = true ∧ ta = [] ∧ r = 0) ∨ (g = nReadfd ∧ ia = true ∧ ta = [] ∧ r = 0) ∨ (g = nList ∧ ia = true ∧ ta = [] ∧ r = 0) ∨ ((g ≠ nRead ∧ g ≠ nReadlink ∧ g ≠ nReadfd ∧ g ≠ nList) ∧ ia = false ∧ ta = [] ∧ r = floatOfInt .f64 i)) :
  Calls Tryz.prog 18 #[.pointer (some ⟨p,0,none⟩),ansV i] w (GiveP p (behindM (restM m) (pushM (restM m) a)) cv sv C w):=by
 obtain ⟨V,L,h1,h2,h3⟩:=h
 have hs:=h2 (by rw [hst];decide)
 have H1:=Lib.hid h1
 have HS:=Lib.hid hs
 have HFR:=Lib.hid h3.rest
 have HFX:Hid (Fit (behindM (restM m) (pushM (restM m) a))):=by
  unfold Hid behindM
  cases hp:pushM (restM m) a with
  | ok m2=>exact h3.rest.push hp
  | error e=>exact h3.rest.fail e
 obtain ⟨X,hX⟩:∃ X,pushM (restM m) a = X:=⟨_,rfl⟩
 have HP:Hid (∀ W W2,MA W p (restM m) cv sv V L C → Below W.heap.size W W2 → Calls Tryz.prog 39 #[.pointer (some ⟨p,0,none⟩),vV ia ta r] W2 (ResP X p (restM m) cv sv V C W)):=fun W W2 hm hb=>by
  rw [← hX,← hia,← hta]
  exact push_from hm hs a r W2 hb ha
 rw [hX] at HFX ⊢
 have HST:=Lib.hid hst
 clear h1 h2 h3 hs hX ha hia hta
 have HB0:Hid (Below w.heap.size w (w.alloc (ansO i))):=(Below.refl _ _).alloc (Nat.le_refl _) _
 have HZ:=Lib.hid (blk_new w (ansO i))
 have HM:=Lib.hid (H1.out.below HB0.out)
 go_enter_defers Tryz.func18,Tryz.ntmps18
 go_upto_block 0 with fail
 change Code.wp _ _ _ _ (w.alloc (ansO i))
 generalize w.alloc (ansO i) = w1 at *
 obtain ⟨q0,q1,q2,q3,q4,q5,q6,q7,q8,q9,f0,f1,f2,f3,f4,f5,f6,f7,f8,f9,ql⟩:=HM.out.tails
 rw [hst] at q0
 go_upto_region 6 with fail
 have h64:=HM.out.v64
 have ht5:Turned [p] w1 (((((((((w1.setCell ⟨p,197,none⟩ (.int .i64 0)).setCell ⟨p,198,none⟩ (.int .i64 0)).setCell ⟨p,199,none⟩ (.string ⟨#[]⟩)).setCell ⟨p,200,none⟩ (.string ⟨#[]⟩)).setCell ⟨p,201,none⟩ (.int .i64 0)).setCell ⟨p,202,none⟩ (.int .i64 0)).setCell ⟨p,203,none⟩ (.int .i64 0)).setCell ⟨p,204,none⟩ (.int .i64 0)).setCell ⟨p,205,none⟩ (.string ⟨#[]⟩)):=((((((((((Turned.refl [p] w1).setCell (by simp) _).setCell (by simp) _).setCell (by simp) _).setCell (by simp) _).setCell (by simp) _).setCell (by simp) _).setCell (by simp) _).setCell (by simp) _).setCell (by simp) _)
 have ho5:(((((((((w1.setCell ⟨p,197,none⟩ (.int .i64 0)).setCell ⟨p,198,none⟩ (.int .i64 0)).setCell ⟨p,199,none⟩ (.string ⟨#[]⟩)).setCell ⟨p,200,none⟩ (.string ⟨#[]⟩)).setCell ⟨p,201,none⟩ (.int .i64 0)).setCell ⟨p,202,none⟩ (.int .i64 0)).setCell ⟨p,203,none⟩ (.int .i64 0)).setCell ⟨p,204,none⟩ (.int .i64 0)).setCell ⟨p,205,none⟩ (.string ⟨#[]⟩)).heap[p]? = some (.cells (mRow (restM m) cv sv V).toArray 79 (0,0)):=(row_put h64 (row_put h64 (row_put h64 (row_put h64 (row_put h64 (row_put h64 (row_put h64 (row_put h64 (row_put h64 HM.out.obj 197 0 rfl _) 198 1 rfl _) 199 2 rfl _) 200 3 rfl _) 201 4 rfl _) 202 5 rfl _) 203 6 rfl _) 204 7 rfl _) 205 8 rfl _)
 generalize (((((((((w1.setCell ⟨p,197,none⟩ (.int .i64 0)).setCell ⟨p,198,none⟩ (.int .i64 0)).setCell ⟨p,199,none⟩ (.string ⟨#[]⟩)).setCell ⟨p,200,none⟩ (.string ⟨#[]⟩)).setCell ⟨p,201,none⟩ (.int .i64 0)).setCell ⟨p,202,none⟩ (.int .i64 0)).setCell ⟨p,203,none⟩ (.int .i64 0)).setCell ⟨p,204,none⟩ (.int .i64 0)).setCell ⟨p,205,none⟩ (.string ⟨#[]⟩)) = w5 at *
 have HM5:Hid (MA w5 p (restM m) cv sv V L C):=HM.out.poke ht5 ho5 rfl rfl
 have HN5:Hid (Next p sv w sv w5):=(Next.of_below HB0.out).trans (Next.of_turned ht5)
 have hz5:w5.heap[w.heap.size]? = some (ansO i):=ht5.kept HZ.out (by have:=blk_lt H1.out.obj;simp;omega)
 have k0:w5.cell? ⟨w.heap.size,0,none⟩ = some (.int .i64 0):=blk_cell hz5 0
 have k1:w5.cell? ⟨w.heap.size,1,none⟩ = some (.int .i64 i):=blk_cell hz5 1
 have k4:w5.cell? ⟨w.heap.size,4,none⟩ = some (.string ⟨#[]⟩):=blk_cell hz5 4
 have k5:w5.cell? ⟨w.heap.size,5,none⟩ = some (.slice none 0 0):=blk_cell hz5 5
 have kl:=blk_lt hz5
 clear q0 q1 q2 q3 q4 q5 q6 q7 q8 q9 f0 f1 f2 f3 f4 f5 f6 f7 f8 f9 ql ht5 ho5 hz5
 have q9:w5.cell? ⟨p,206,none⟩ = some (.string ⟨g.toArray⟩):=by rw [← hg];exact HM5.out.t 206 9 rfl rfl
 have ql:=blk_lt HM5.out.obj
 have HJN:=Lib.hid (fun W=>Join_nil W)
 have HNB:=Lib.hid (fun W=>number_any r W)
 clear hg
 rcases hcase with ⟨rfl,rfl,rfl,rfl⟩ | ⟨rfl,rfl,rfl,rfl⟩ | ⟨rfl,rfl,rfl,rfl⟩ | ⟨rfl,rfl,rfl,rfl⟩ | ⟨⟨n1,n2,n3,n4⟩,rfl,rfl,hr⟩
 ·unfold nRead at q9
  cases X with
  | error y =>
   go_wp2_with (first | fail | (go_at_call 39;refine (HP.out w5 _ HM5.out (Below.refl _ _)).mono ?_;rintro e w9 ⟨rfl,sv9,L9,hm9,hn9⟩;have HM9:=Lib.hid hm9;have HN9:=Lib.hid (HN5.out.trans hn9);clear hm9 hn9))
   refine leaves_cons (f:=38) (args := #[.pointer (some ⟨p,0,none⟩)]) (by simp) (by simp [go_sem]) ?_
   refine (caught_panic p _ _ _ _ _ _ y.1 y.2 _ HM9.out).mono ?_
   rintro e u' w3 ⟨rfl,rfl,hm,hn⟩
   exact ⟨.int .i64 0,by simp [results,Tryz.results18,go_sem],sv9,rfl,⟨V,L9,hm,fun h=>absurd rfl h,HFX.out⟩,HN9.out.trans hn⟩
  | ok m2 =>
   go_wp2_with (first | fail | (go_at_call 39;refine (HP.out w5 _ HM5.out (Below.refl _ _)).mono ?_;rintro e w9 ⟨rfl,sv9,V9,L9,hm9,hs9,hn9⟩;have HM9:=Lib.hid hm9;have HS9:=Lib.hid hs9;have HN9:=Lib.hid (HN5.out.trans hn9);clear hm9 hs9 hn9))
   refine leaves_cons (f:=38) (args := #[.pointer (some ⟨p,0,none⟩)]) (by simp) (by simp [go_sem]) ?_
   refine (caught_idle _ _).mono ?_
   rintro e u' w3 ⟨rfl,rfl,rfl⟩
   exact ⟨.int .i64 0,by simp [results,Tryz.results18,go_sem],sv9,rfl,⟨V9,L9,HM9.out,fun _=>HS9.out,HFX.out⟩,HN9.out⟩
 ·unfold nReadlink at q9
  cases X with
  | error y =>
   go_wp2_with (first | fail | (go_at_call 39;refine (HP.out w5 _ HM5.out (Below.refl _ _)).mono ?_;rintro e w9 ⟨rfl,sv9,L9,hm9,hn9⟩;have HM9:=Lib.hid hm9;have HN9:=Lib.hid (HN5.out.trans hn9);clear hm9 hn9))
   refine leaves_cons (f:=38) (args := #[.pointer (some ⟨p,0,none⟩)]) (by simp) (by simp [go_sem]) ?_
   refine (caught_panic p _ _ _ _ _ _ y.1 y.2 _ HM9.out).mono ?_
   rintro e u' w3 ⟨rfl,rfl,hm,hn⟩
   exact ⟨.int .i64 0,by simp [results,Tryz.results18,go_sem],sv9,rfl,⟨V,L9,hm,fun h=>absurd rfl h,HFX.out⟩,HN9.out.trans hn⟩
  | ok m2 =>
   go_wp2_with (first | fail | (go_at_call 39;refine (HP.out w5 _ HM5.out (Below.refl _ _)).mono ?_;rintro e w9 ⟨rfl,sv9,V9,L9,hm9,hs9,hn9⟩;have HM9:=Lib.hid hm9;have HS9:=Lib.hid hs9;have HN9:=Lib.hid (HN5.out.trans hn9);clear hm9 hs9 hn9))
   refine leaves_cons (f:=38) (args := #[.pointer (some ⟨p,0,none⟩)]) (by simp) (by simp [go_sem]) ?_
   refine (caught_idle _ _).mono ?_
   rintro e u' w3 ⟨rfl,rfl,rfl⟩
   exact ⟨.int .i64 0,by simp [results,Tryz.results18,go_sem],sv9,rfl,⟨V9,L9,HM9.out,fun _=>HS9.out,HFX.out⟩,HN9.out⟩
 ·unfold nReadfd at q9
  cases X with
  | error y =>
   go_wp2_with (first | fail | (go_at_call 39;refine (HP.out w5 _ HM5.out (Below.refl _ _)).mono ?_;rintro e w9 ⟨rfl,sv9,L9,hm9,hn9⟩;have HM9:=Lib.hid hm9;have HN9:=Lib.hid (HN5.out.trans hn9);clear hm9 hn9))
   refine leaves_cons (f:=38) (args := #[.pointer (some ⟨p,0,none⟩)]) (by simp) (by simp [go_sem]) ?_
   refine (caught_panic p _ _ _ _ _ _ y.1 y.2 _ HM9.out).mono ?_
   rintro e u' w3 ⟨rfl,rfl,hm,hn⟩
   exact ⟨.int .i64 0,by simp [results,Tryz.results18,go_sem],sv9,rfl,⟨V,L9,hm,fun h=>absurd rfl h,HFX.out⟩,HN9.out.trans hn⟩
  | ok m2 =>
   go_wp2_with (first | fail | (go_at_call 39;refine (HP.out w5 _ HM5.out (Below.refl _ _)).mono ?_;rintro e w9 ⟨rfl,sv9,V9,L9,hm9,hs9,hn9⟩;have HM9:=Lib.hid hm9;have HS9:=Lib.hid hs9;have HN9:=Lib.hid (HN5.out.trans hn9);clear hm9 hs9 hn9))
   refine leaves_cons (f:=38) (args := #[.pointer (some ⟨p,0,none⟩)]) (by simp) (by simp [go_sem]) ?_
   refine (caught_idle _ _).mono ?_
   rintro e u' w3 ⟨rfl,rfl,rfl⟩
   exact ⟨.int .i64 0,by simp [results,Tryz.results18,go_sem],sv9,rfl,⟨V9,L9,HM9.out,fun _=>HS9.out,HFX.out⟩,HN9.out⟩
 ·unfold nList at q9
  cases X with
  | error y =>
   go_wp2_with (first | (go_at_call 41;refine (HJN.out _).mono ?_;rintro e w6 ⟨rfl,hb6⟩;have HB6:=Lib.hid hb6;clear hb6) | (go_at_call 39;refine (HP.out w5 _ HM5.out HB6.out).mono ?_;rintro e w9 ⟨rfl,sv9,L9,hm9,hn9⟩;have HM9:=Lib.hid hm9;have HN9:=Lib.hid (HN5.out.trans hn9);clear hm9 hn9))
   refine leaves_cons (f:=38) (args := #[.pointer (some ⟨p,0,none⟩)]) (by simp) (by simp [go_sem]) ?_
   refine (caught_panic p _ _ _ _ _ _ y.1 y.2 _ HM9.out).mono ?_
   rintro e u' w3 ⟨rfl,rfl,hm,hn⟩
   exact ⟨.int .i64 0,by simp [results,Tryz.results18,go_sem],sv9,rfl,⟨V,L9,hm,fun h=>absurd rfl h,HFX.out⟩,HN9.out.trans hn⟩
  | ok m2 =>
   go_wp2_with (first | (go_at_call 41;refine (HJN.out _).mono ?_;rintro e w6 ⟨rfl,hb6⟩;have HB6:=Lib.hid hb6;clear hb6) | (go_at_call 39;refine (HP.out w5 _ HM5.out HB6.out).mono ?_;rintro e w9 ⟨rfl,sv9,V9,L9,hm9,hs9,hn9⟩;have HM9:=Lib.hid hm9;have HS9:=Lib.hid hs9;have HN9:=Lib.hid (HN5.out.trans hn9);clear hm9 hs9 hn9))
   refine leaves_cons (f:=38) (args := #[.pointer (some ⟨p,0,none⟩)]) (by simp) (by simp [go_sem]) ?_
   refine (caught_idle _ _).mono ?_
   rintro e u' w3 ⟨rfl,rfl,rfl⟩
   exact ⟨.int .i64 0,by simp [results,Tryz.results18,go_sem],sv9,rfl,⟨V9,L9,HM9.out,fun _=>HS9.out,HFX.out⟩,HN9.out⟩
 ·have e1:(g == [114,101,97,100]) = false:=beq_eq_false_iff_ne.2 n1
  have e2:(g == [114,101,97,100,108,105,110,107]) = false:=beq_eq_false_iff_ne.2 n2
  have e3:(g == [114,101,97,100,102,100]) = false:=beq_eq_false_iff_ne.2 n3
  have e4:(g == [108,105,115,116]) = false:=beq_eq_false_iff_ne.2 n4
  rw [hr] at HNB
  rw [hr] at HP
  cases X with
  | error y =>
   go_wp2_with (first | (go_at_call 40;refine (HNB.out _).mono ?_;rintro e w6 ⟨rfl,hb6⟩;have HB6:=Lib.hid hb6;clear hb6) | (go_at_call 39;refine (HP.out w5 _ HM5.out HB6.out).mono ?_;rintro e w9 ⟨rfl,sv9,L9,hm9,hn9⟩;have HM9:=Lib.hid hm9;have HN9:=Lib.hid (HN5.out.trans hn9);clear hm9 hn9))
   refine leaves_cons (f:=38) (args := #[.pointer (some ⟨p,0,none⟩)]) (by simp) (by simp [go_sem]) ?_
   refine (caught_panic p _ _ _ _ _ _ y.1 y.2 _ HM9.out).mono ?_
   rintro e u' w3 ⟨rfl,rfl,hm,hn⟩
   exact ⟨.int .i64 0,by simp [results,Tryz.results18,go_sem],sv9,rfl,⟨V,L9,hm,fun h=>absurd rfl h,HFX.out⟩,HN9.out.trans hn⟩
  | ok m2 =>
   go_wp2_with (first | (go_at_call 40;refine (HNB.out _).mono ?_;rintro e w6 ⟨rfl,hb6⟩;have HB6:=Lib.hid hb6;clear hb6) | (go_at_call 39;refine (HP.out w5 _ HM5.out HB6.out).mono ?_;rintro e w9 ⟨rfl,sv9,V9,L9,hm9,hs9,hn9⟩;have HM9:=Lib.hid hm9;have HS9:=Lib.hid hs9;have HN9:=Lib.hid (HN5.out.trans hn9);clear hm9 hs9 hn9))
   refine leaves_cons (f:=38) (args := #[.pointer (some ⟨p,0,none⟩)]) (by simp) (by simp [go_sem]) ?_
   refine (caught_idle _ _).mono ?_
   rintro e u' w3 ⟨rfl,rfl,rfl⟩
   exact ⟨.int .i64 0,by simp [results,Tryz.results18,go_sem],sv9,rfl,⟨V9,L9,HM9.out,fun _=>HS9.out,HFX.out⟩,HN9.out⟩
theorem Give_any (p:Nat) (m:Mac) (cv sv:Value) (C:Is) (i:Nat) (w:World) (h:MAt w p m cv sv C) (hst:m.state = 1) (hi:i ≤ 1000000) :
  Calls Tryz.prog 18 #[.pointer (some ⟨p,0,none⟩),ansV i] w (GiveP p (giveM m i) cv sv C w):=by
 have e:giveM m i = behindM (restM m) (pushM (restM m) (giveV m.asked i)):=rfl
 rw [e]
 unfold giveV
 by_cases h1:m.asked = nRead
 ·rw [if_pos (.inl h1)]
  exact give_walk p m cv sv C i w h hst _ rfl (textV []) 0 num0 true [] rfl rfl (.inl ⟨h1,rfl,rfl,rfl⟩)
 by_cases h2:m.asked = nReadlink
 ·rw [if_pos (.inr (.inl h2))]
  exact give_walk p m cv sv C i w h hst _ rfl (textV []) 0 num0 true [] rfl rfl (.inr (.inl ⟨h2,rfl,rfl,rfl⟩))
 by_cases h3:m.asked = nReadfd
 ·rw [if_pos (.inr (.inr (.inl h3)))]
  exact give_walk p m cv sv C i w h hst _ rfl (textV []) 0 num0 true [] rfl rfl (.inr (.inr (.inl ⟨h3,rfl,rfl,rfl⟩)))
 by_cases h4:m.asked = nList
 ·rw [if_pos (.inr (.inr (.inr h4)))]
  exact give_walk p m cv sv C i w h hst _ rfl (textV []) 0 num0 true [] rfl rfl (.inr (.inr (.inr (.inl ⟨h4,rfl,rfl,rfl⟩))))
 ·rw [if_neg (by simp [h1,h2,h3,h4])]
  exact give_walk p m cv sv C i w h hst _ rfl (numV (floatOfInt .f64 i)) (floatOfInt .f64 i) (num_len hi) false [] rfl rfl (.inr (.inr (.inr (.inr ⟨⟨h1,h2,h3,h4⟩,rfl,rfl,rfl⟩))))
end Go.Proofs.YtmfpmandkhiknaaGreatDoor.vmm
