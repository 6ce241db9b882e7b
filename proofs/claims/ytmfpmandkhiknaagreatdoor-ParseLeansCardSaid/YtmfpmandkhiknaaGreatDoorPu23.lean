/-
  Proved: the methods of the document's parser, all of them; what step returns (written by wip/bin/par11.py). Conditions: as each theorem says.
  Proved: what step of the document's parser returns: copy, all. Conditions: as each theorem says.
  Proved: what stage of the document's parser returns. Conditions: as each theorem says.
-/
import Derived.Test.YtmfpmandkhiknaaGreatDoorPu22
set_option linter.unusedVariables false
set_option linter.unusedSimpArgs false
namespace Go.Proofs.YtmfpmandkhiknaaGreatDoor.par
open Go.RowKit
open heap
open lex (Tk TRow TkAt run_store_float add0)
set_option maxRecDepth 100000
attribute [local go_sem] run_store_float
set_option maxHeartbeats 4000000 in
theorem step_run {p:Nat} {v:Value} {E:PE} {f:Nat} (J:Jobs p v E f) (s:PS) (x:Nd) (s2:PS) (W:World) (hf:16 * ms E s + 8 ≤ f) (hr:stepR E f s = some (x,s2)) (h:PAt W p v E s) (h1:isW E wCopy s = false) (h2:isW E wRun s = true) :
  Calls Tryz.prog 79 #[PP p] W (NodeR p v E s2 x W):=by
 have HS:=Lib.hid (SW.start h)
 have HTA:=Lib.hid (fun W h=>t_any p v E s W h)
 have HW1:=Lib.hid (fun W h=>word_fix p v E s _ wCopy _ W h rfl h1)
 have HW2:=Lib.hid (fun W h=>word_fix p v E s _ wRun _ W h rfl h2)
 obtain ⟨hi,hmi⟩:=isW_inc h2
 rw [stepR,if_neg (by rw [h1];exact Bool.false_ne_true),if_pos h2] at hr
 obtain ⟨y,s4,h6,h7,-⟩:=(run_ends E f .block (inc (sT E s)) (by simp [okJ]) (by simp only [rank];omega)).one rfl
 simp only [h6] at hr
 cases hr
 have HJ:=Lib.hid (fun W h=>J.block _ y s2 W (by simp only [rank];omega) h6 h)
 clear J hf h h1 h2 hmi h6 h7
 generalize sT E s = s1 at *
 generalize tk E s = t at *
 go_enter Tryz.func79,Tryz.ntmps79
 go_wp2_with fail
 have HS0:=Lib.hid (HS.out.alloc (ndO zero (.slice none 0 0)))
 clear HS
 refine (HTA.out _ HS0.out.P).mono ?_
 rintro e w2 ⟨rfl,hP,hT⟩
 have HS1:=Lib.hid (HS0.out.call hP hT)
 clear hP hT HS0
 have HS2:=Lib.hid ((HS1.out.alloc (tnO t)).allocAt (ksO 0 [] none 0 0 t.at') (w2.heap.size + 1) (by simp))
 clear HS1 HTA
 go_wp2_with fail
 refine (HW1.out _ HS2.out.P).mono ?_
 rintro e w3 ⟨rfl,hP,hT⟩
 have HS3:=Lib.hid (HS2.out.call hP hT)
 clear hP hT HS2
 go_wp2_with fail
 refine (HW2.out _ HS3.out.P).mono ?_
 rintro e wa ⟨rfl,hP,hT⟩
 have HSe:=Lib.hid (HS3.out.call hP hT)
 clear hP hT HS3
 have hcs:=HSe.out.P.cells
 have q1:=hcs.c1
 have f1:=hcs.f1
 have hle:=HSe.out.P.le
 have hlen:=HSe.out.P.len
 have hpl:=HSe.out.P.lt
 clear hcs
 obtain ⟨r0,r1,r2,r3,r4,rf0,rf1,rf2,rf3,rf4,rl⟩:=HSe.out.c5 0 rfl
 obtain ⟨rn,rm⟩:=HSe.out.ne 0 rfl
 go_wp2_with fail
 have HS5:=Lib.hid ((HSe.out.inc hi).setL 0 rfl 0 (.int .i64 4))
 clear HSe
 refine (HJ.out _ HS5.out.P).mono ?_
 rintro e w6 ⟨aw6,nw6,Sw6,rfl,hk,hS,hP,hT⟩
 have HS6:=Lib.hid (HS5.out.callT hk hS hP hT)
 clear hk hS hP hT
 clear q1 f1 hle hlen hpl
 clear r0 r1 r2 r3 r4 rf0 rf1 rf2 rf3 rf4 rl
 clear rn rm HS5
 obtain ⟨r0,r1,r2,r3,r4,rf0,rf1,rf2,rf3,rf4,rl⟩:=HS6.out.c5 0 rfl
 go_upto_region 34 with fail
 have HSd:=Lib.hid (SW.buildAt [_] (HS6.out.setL 0 rfl 3 (.slice (some ⟨w6.heap.size,0,none⟩) 1 1)) [y] rfl (by simp) w6.heap.size (by simp) #[.int .i64 y.kind,.string ⟨y.text.toArray⟩,.float .f64 y.num,.slice aw6 y.kids.length nw6,.int .i64 y.at'] rfl 1 rfl)
 clear HS6
 generalize hw9:(World.alloc (w6.setCell _ _) _) = wg at HSd ⊢
 clear hw9
 clear r0 r1 r2 r3 r4 rf0 rf1 rf2 rf3 rf4 rl
 obtain ⟨r0,r1,r2,r3,r4,rf0,rf1,rf2,rf3,rf4,rl⟩:=HSd.out.c5 0 rfl
 obtain ⟨q0,q1,q2,q3,q4,qf0,qf1,qf2,qf3,qf4,ql⟩:=HSd.out.c5 2 rfl
 go_wp2_with fail
 have HSF:=Lib.hid ((HSd.out.set5 2 rfl (.int .i64 4) (.string ⟨#[]⟩) (.float .f64 0) (.slice (some ⟨w6.heap.size,0,none⟩) 1 1) (.int .i64 t.at')))
 generalize (((((wg.setCell _ _).setCell _ _).setCell _ _).setCell _ _).setCell _ _) = wf at HSF ⊢
 obtain ⟨z0,z1,z2,z3,z4,zf0,zf1,zf2,zf3,zf4,zl⟩:=HSF.out.c5 2 rfl
 refine bodyPost_ret (v:=.agg #[.int .i64 4,.string ⟨#[]⟩,.float .f64 0,.slice (some ⟨w6.heap.size,0,none⟩) 1 1,.int .i64 t.at']) (by simp [results,Tryz.results79,go_sem,z0,z1,z2,z3,z4]) rfl ?_
 exact HSF.out.node (List.mem_cons_self ..) (.mk 4 [] 0 [y] t.at') rfl
set_option maxHeartbeats 4000000 in
theorem step_work {p:Nat} {v:Value} {E:PE} {f:Nat} (J:Jobs p v E f) (s:PS) (x:Nd) (s2:PS) (W:World) (hf:16 * ms E s + 8 ≤ f) (hr:stepR E f s = some (x,s2)) (h:PAt W p v E s) (h1:isW E wCopy s = false) (h2:isW E wRun s = false) (h3:isW E wWork s = true) :
  Calls Tryz.prog 79 #[PP p] W (NodeR p v E s2 x W):=by
 have HS:=Lib.hid (SW.start h)
 have HTA:=Lib.hid (fun W h=>t_any p v E s W h)
 have HW1:=Lib.hid (fun W h=>word_fix p v E s _ wCopy _ W h rfl h1)
 have HW2:=Lib.hid (fun W h=>word_fix p v E s _ wRun _ W h rfl h2)
 have HW3:=Lib.hid (fun W h=>word_fix p v E s _ wWork _ W h rfl h3)
 obtain ⟨hi,hmi⟩:=isW_inc h3
 obtain ⟨hk1,hk2⟩:=isW_kind h3
 rw [stepR,if_neg (by rw [h1];exact Bool.false_ne_true),if_neg (by rw [h2];exact Bool.false_ne_true),if_pos (by simp [h3])] at hr
 rw [hk2] at hr
 have hr:some (Nd.mk 5 (pText E (inc (sT E s))).1.1 0 [] (tk E s).at',must E [59] (pText E (inc (sT E s))).2) = some (x,s2):=hr
 cases hr
 have HTX:=Lib.hid (fun W h=>text_any p v E (inc (sT E s)) W h)
 have HM2:=Lib.hid (fun W h=>must_any p v E (pText E (inc (sT E s))).2 [59] W h)
 clear J hf h h1 h2 h3 hmi
 generalize must E [59] (pText E (inc (sT E s))).2 = s9 at *
 generalize pText E (inc (sT E s)) = nmx at *
 obtain ⟨⟨nt,na⟩,s5⟩:=nmx
 simp only at HTX HM2 ⊢
 generalize sT E s = s1 at *
 generalize tk E s = t at *
 obtain ⟨kd,u,nm,a⟩:=t
 simp only at hk1 hk2 ⊢
 subst hk1 hk2
 obtain ⟨t,hT⟩:∃ t:Tn,t = ⟨1,wWork,nm,a⟩:=⟨_,rfl⟩
 rw [← hT] at HTA
 have HTT:=Lib.hid hT
 clear hT
 rw [show a = t.at' by rw [HTT.out]]
 go_enter Tryz.func79,Tryz.ntmps79
 go_wp2_with fail
 have HS0:=Lib.hid (HS.out.alloc (ndO zero (.slice none 0 0)))
 clear HS
 refine (HTA.out _ HS0.out.P).mono ?_
 rintro e w2 ⟨rfl,hP,hT⟩
 have HS1:=Lib.hid (HS0.out.call hP hT)
 clear hP hT HS0
 have HS2:=Lib.hid ((HS1.out.alloc (tnO t)).allocAt (ksO 0 [] none 0 0 t.at') (w2.heap.size + 1) (by simp))
 clear HS1 HTA
 go_wp2_with fail
 refine (HW1.out _ HS2.out.P).mono ?_
 rintro e w3 ⟨rfl,hP,hT⟩
 have HS3:=Lib.hid (HS2.out.call hP hT)
 clear hP hT HS2
 go_wp2_with fail
 refine (HW2.out _ HS3.out.P).mono ?_
 rintro e wa ⟨rfl,hP,hT⟩
 have HSa:=Lib.hid (HS3.out.call hP hT)
 clear hP hT HS3
 go_wp2_with fail
 refine (HW3.out _ HSa.out.P).mono ?_
 rintro e wx3 ⟨rfl,hP,hT⟩
 have HSx3:=Lib.hid (HSa.out.call hP hT)
 clear hP hT HSa
 have HSe:=HSx3
 clear HSx3
 have hcs:=HSe.out.P.cells
 have q1:=hcs.c1
 have f1:=hcs.f1
 have hle:=HSe.out.P.le
 have hlen:=HSe.out.P.len
 have hpl:=HSe.out.P.lt
 clear hcs
 obtain ⟨r0,r1,r2,r3,r4,rf0,rf1,rf2,rf3,rf4,rl⟩:=HSe.out.c5 0 rfl
 obtain ⟨rn,rm⟩:=HSe.out.ne 0 rfl
 obtain ⟨t0,t1,t2,t3,tf0,tf1,tf2,tf3,tl⟩:=HSe.out.c4 1 rfl
 obtain ⟨tn,tm⟩:=HSe.out.ne 1 rfl
 have ht1:t.text = wWork:=by rw [HTT.out]
 rw [ht1] at t1
 clear ht1
 go_wp2_with fail
 have HS5:=Lib.hid ((HSe.out.inc hi).setL 0 rfl 0 (.int .i64 5))
 clear HSe
 refine (HTX.out _ HS5.out.P).mono ?_
 rintro e w6 ⟨rfl,hP,hT⟩
 have HS6:=Lib.hid (HS5.out.call hP hT)
 clear hP hT HS5
 clear q1 f1 hle hlen hpl
 clear r0 r1 r2 r3 r4 rf0 rf1 rf2 rf3 rf4 rl
 clear t0 t1 t2 t3 tf0 tf1 tf2 tf3 tl
 clear rn rm tn tm
 obtain ⟨r0,r1,r2,r3,r4,rf0,rf1,rf2,rf3,rf4,rl⟩:=HS6.out.c5 0 rfl
 go_wp2_with fail
 have HSd:=Lib.hid (HS6.out.setL 0 rfl 1 (.string ⟨nt.toArray⟩))
 clear HS6
 refine (HM2.out _ HSd.out.P).mono ?_
 rintro e w7 ⟨⟨uw7,rfl⟩,hP,hT⟩
 have HS7:=Lib.hid (HSd.out.call hP hT)
 clear hP hT HSd
 clear r0 r1 r2 r3 r4 rf0 rf1 rf2 rf3 rf4 rl
 obtain ⟨r0,r1,r2,r3,r4,rf0,rf1,rf2,rf3,rf4,rl⟩:=HS7.out.c5 0 rfl
 obtain ⟨q0,q1,q2,q3,q4,qf0,qf1,qf2,qf3,qf4,ql⟩:=HS7.out.c5 2 rfl
 go_wp2_with fail
 have HSF:=Lib.hid ((HS7.out.set5 2 rfl (.int .i64 5) (.string ⟨nt.toArray⟩) (.float .f64 0) (.slice none 0 0) (.int .i64 t.at')))
 generalize (((((w7.setCell _ _).setCell _ _).setCell _ _).setCell _ _).setCell _ _) = wf at HSF ⊢
 obtain ⟨z0,z1,z2,z3,z4,zf0,zf1,zf2,zf3,zf4,zl⟩:=HSF.out.c5 2 rfl
 refine bodyPost_ret (v:=.agg #[.int .i64 5,.string ⟨nt.toArray⟩,.float .f64 0,.slice none 0 0,.int .i64 t.at']) (by simp [results,Tryz.results79,go_sem,z0,z1,z2,z3,z4]) rfl ?_
 exact HSF.out.leaf (.mk 5 nt 0 [] t.at') rfl
set_option maxHeartbeats 4000000 in
theorem step_mk {p:Nat} {v:Value} {E:PE} {f:Nat} (J:Jobs p v E f) (s:PS) (x:Nd) (s2:PS) (W:World) (hf:16 * ms E s + 8 ≤ f) (hr:stepR E f s = some (x,s2)) (h:PAt W p v E s) (h1:isW E wCopy s = false) (h2:isW E wRun s = false) (h3:isW E wWork s = false) (h4:isW E wMk s = true) :
  Calls Tryz.prog 79 #[PP p] W (NodeR p v E s2 x W):=by
 have HS:=Lib.hid (SW.start h)
 have HTA:=Lib.hid (fun W h=>t_any p v E s W h)
 have HW1:=Lib.hid (fun W h=>word_fix p v E s _ wCopy _ W h rfl h1)
 have HW2:=Lib.hid (fun W h=>word_fix p v E s _ wRun _ W h rfl h2)
 have HW3:=Lib.hid (fun W h=>word_fix p v E s _ wWork _ W h rfl h3)
 have HW4:=Lib.hid (fun W h=>word_fix p v E s _ wMk _ W h rfl h4)
 obtain ⟨hi,hmi⟩:=isW_inc h4
 obtain ⟨hk1,hk2⟩:=isW_kind h4
 rw [stepR,if_neg (by rw [h1];exact Bool.false_ne_true),if_neg (by rw [h2];exact Bool.false_ne_true),if_pos (by simp [h4])] at hr
 rw [hk2] at hr
 have hr:some (Nd.mk 6 (pText E (inc (sT E s))).1.1 0 [] (tk E s).at',must E [59] (pText E (inc (sT E s))).2) = some (x,s2):=hr
 cases hr
 have HTX:=Lib.hid (fun W h=>text_any p v E (inc (sT E s)) W h)
 have HM2:=Lib.hid (fun W h=>must_any p v E (pText E (inc (sT E s))).2 [59] W h)
 clear J hf h h1 h2 h3 h4 hmi
 generalize must E [59] (pText E (inc (sT E s))).2 = s9 at *
 generalize pText E (inc (sT E s)) = nmx at *
 obtain ⟨⟨nt,na⟩,s5⟩:=nmx
 simp only at HTX HM2 ⊢
 generalize sT E s = s1 at *
 generalize tk E s = t at *
 obtain ⟨kd,u,nm,a⟩:=t
 simp only at hk1 hk2 ⊢
 subst hk1 hk2
 obtain ⟨t,hT⟩:∃ t:Tn,t = ⟨1,wMk,nm,a⟩:=⟨_,rfl⟩
 rw [← hT] at HTA
 have HTT:=Lib.hid hT
 clear hT
 rw [show a = t.at' by rw [HTT.out]]
 go_enter Tryz.func79,Tryz.ntmps79
 go_wp2_with fail
 have HS0:=Lib.hid (HS.out.alloc (ndO zero (.slice none 0 0)))
 clear HS
 refine (HTA.out _ HS0.out.P).mono ?_
 rintro e w2 ⟨rfl,hP,hT⟩
 have HS1:=Lib.hid (HS0.out.call hP hT)
 clear hP hT HS0
 have HS2:=Lib.hid ((HS1.out.alloc (tnO t)).allocAt (ksO 0 [] none 0 0 t.at') (w2.heap.size + 1) (by simp))
 clear HS1 HTA
 go_wp2_with fail
 refine (HW1.out _ HS2.out.P).mono ?_
 rintro e w3 ⟨rfl,hP,hT⟩
 have HS3:=Lib.hid (HS2.out.call hP hT)
 clear hP hT HS2
 go_wp2_with fail
 refine (HW2.out _ HS3.out.P).mono ?_
 rintro e wa ⟨rfl,hP,hT⟩
 have HSa:=Lib.hid (HS3.out.call hP hT)
 clear hP hT HS3
 go_wp2_with fail
 refine (HW3.out _ HSa.out.P).mono ?_
 rintro e wx3 ⟨rfl,hP,hT⟩
 have HSx3:=Lib.hid (HSa.out.call hP hT)
 clear hP hT HSa
 go_wp2_with fail
 refine (HW4.out _ HSx3.out.P).mono ?_
 rintro e wx4 ⟨rfl,hP,hT⟩
 have HSx4:=Lib.hid (HSx3.out.call hP hT)
 clear hP hT HSx3
 have HSe:=HSx4
 clear HSx4
 have hcs:=HSe.out.P.cells
 have q1:=hcs.c1
 have f1:=hcs.f1
 have hle:=HSe.out.P.le
 have hlen:=HSe.out.P.len
 have hpl:=HSe.out.P.lt
 clear hcs
 obtain ⟨r0,r1,r2,r3,r4,rf0,rf1,rf2,rf3,rf4,rl⟩:=HSe.out.c5 0 rfl
 obtain ⟨rn,rm⟩:=HSe.out.ne 0 rfl
 obtain ⟨t0,t1,t2,t3,tf0,tf1,tf2,tf3,tl⟩:=HSe.out.c4 1 rfl
 obtain ⟨tn,tm⟩:=HSe.out.ne 1 rfl
 have ht1:t.text = wMk:=by rw [HTT.out]
 rw [ht1] at t1
 clear ht1
 go_wp2_with fail
 have HS5:=Lib.hid (((HSe.out.inc hi).setL 0 rfl 0 (.int .i64 5)).setL 0 rfl 0 (.int .i64 6))
 clear HSe
 refine (HTX.out _ HS5.out.P).mono ?_
 rintro e w6 ⟨rfl,hP,hT⟩
 have HS6:=Lib.hid (HS5.out.call hP hT)
 clear hP hT HS5
 clear q1 f1 hle hlen hpl
 clear r0 r1 r2 r3 r4 rf0 rf1 rf2 rf3 rf4 rl
 clear t0 t1 t2 t3 tf0 tf1 tf2 tf3 tl
 clear rn rm tn tm
 obtain ⟨r0,r1,r2,r3,r4,rf0,rf1,rf2,rf3,rf4,rl⟩:=HS6.out.c5 0 rfl
 go_wp2_with fail
 have HSd:=Lib.hid (HS6.out.setL 0 rfl 1 (.string ⟨nt.toArray⟩))
 clear HS6
 refine (HM2.out _ HSd.out.P).mono ?_
 rintro e w7 ⟨⟨uw7,rfl⟩,hP,hT⟩
 have HS7:=Lib.hid (HSd.out.call hP hT)
 clear hP hT HSd
 clear r0 r1 r2 r3 r4 rf0 rf1 rf2 rf3 rf4 rl
 obtain ⟨r0,r1,r2,r3,r4,rf0,rf1,rf2,rf3,rf4,rl⟩:=HS7.out.c5 0 rfl
 obtain ⟨q0,q1,q2,q3,q4,qf0,qf1,qf2,qf3,qf4,ql⟩:=HS7.out.c5 2 rfl
 go_wp2_with fail
 have HSF:=Lib.hid ((HS7.out.set5 2 rfl (.int .i64 6) (.string ⟨nt.toArray⟩) (.float .f64 0) (.slice none 0 0) (.int .i64 t.at')))
 generalize (((((w7.setCell _ _).setCell _ _).setCell _ _).setCell _ _).setCell _ _) = wf at HSF ⊢
 obtain ⟨z0,z1,z2,z3,z4,zf0,zf1,zf2,zf3,zf4,zl⟩:=HSF.out.c5 2 rfl
 refine bodyPost_ret (v:=.agg #[.int .i64 6,.string ⟨nt.toArray⟩,.float .f64 0,.slice none 0 0,.int .i64 t.at']) (by simp [results,Tryz.results79,go_sem,z0,z1,z2,z3,z4]) rfl ?_
 exact HSF.out.leaf (.mk 6 nt 0 [] t.at') rfl
set_option maxHeartbeats 4000000 in
theorem step_rem {p:Nat} {v:Value} {E:PE} {f:Nat} (J:Jobs p v E f) (s:PS) (x:Nd) (s2:PS) (W:World) (hf:16 * ms E s + 8 ≤ f) (hr:stepR E f s = some (x,s2)) (h:PAt W p v E s) (h1:isW E wCopy s = false) (h2:isW E wRun s = false) (h3:isW E wWork s = false) (h4:isW E wMk s = false) (h5:isW E wRem s = true) :
  Calls Tryz.prog 79 #[PP p] W (NodeR p v E s2 x W):=by
 have HS:=Lib.hid (SW.start h)
 have HTA:=Lib.hid (fun W h=>t_any p v E s W h)
 have HW1:=Lib.hid (fun W h=>word_fix p v E s _ wCopy _ W h rfl h1)
 have HW2:=Lib.hid (fun W h=>word_fix p v E s _ wRun _ W h rfl h2)
 have HW3:=Lib.hid (fun W h=>word_fix p v E s _ wWork _ W h rfl h3)
 have HW4:=Lib.hid (fun W h=>word_fix p v E s _ wMk _ W h rfl h4)
 have HW5:=Lib.hid (fun W h=>word_fix p v E s _ wRem _ W h rfl h5)
 obtain ⟨hi,hmi⟩:=isW_inc h5
 obtain ⟨hk1,hk2⟩:=isW_kind h5
 rw [stepR,if_neg (by rw [h1];exact Bool.false_ne_true),if_neg (by rw [h2];exact Bool.false_ne_true),if_pos (by simp [h5])] at hr
 rw [hk2] at hr
 have hr:some (Nd.mk 7 (pText E (inc (sT E s))).1.1 0 [] (tk E s).at',must E [59] (pText E (inc (sT E s))).2) = some (x,s2):=hr
 cases hr
 have HTX:=Lib.hid (fun W h=>text_any p v E (inc (sT E s)) W h)
 have HM2:=Lib.hid (fun W h=>must_any p v E (pText E (inc (sT E s))).2 [59] W h)
 clear J hf h h1 h2 h3 h4 h5 hmi
 generalize must E [59] (pText E (inc (sT E s))).2 = s9 at *
 generalize pText E (inc (sT E s)) = nmx at *
 obtain ⟨⟨nt,na⟩,s5⟩:=nmx
 simp only at HTX HM2 ⊢
 generalize sT E s = s1 at *
 generalize tk E s = t at *
 obtain ⟨kd,u,nm,a⟩:=t
 simp only at hk1 hk2 ⊢
 subst hk1 hk2
 obtain ⟨t,hT⟩:∃ t:Tn,t = ⟨1,wRem,nm,a⟩:=⟨_,rfl⟩
 rw [← hT] at HTA
 have HTT:=Lib.hid hT
 clear hT
 rw [show a = t.at' by rw [HTT.out]]
 go_enter Tryz.func79,Tryz.ntmps79
 go_wp2_with fail
 have HS0:=Lib.hid (HS.out.alloc (ndO zero (.slice none 0 0)))
 clear HS
 refine (HTA.out _ HS0.out.P).mono ?_
 rintro e w2 ⟨rfl,hP,hT⟩
 have HS1:=Lib.hid (HS0.out.call hP hT)
 clear hP hT HS0
 have HS2:=Lib.hid ((HS1.out.alloc (tnO t)).allocAt (ksO 0 [] none 0 0 t.at') (w2.heap.size + 1) (by simp))
 clear HS1 HTA
 go_wp2_with fail
 refine (HW1.out _ HS2.out.P).mono ?_
 rintro e w3 ⟨rfl,hP,hT⟩
 have HS3:=Lib.hid (HS2.out.call hP hT)
 clear hP hT HS2
 go_wp2_with fail
 refine (HW2.out _ HS3.out.P).mono ?_
 rintro e wa ⟨rfl,hP,hT⟩
 have HSa:=Lib.hid (HS3.out.call hP hT)
 clear hP hT HS3
 go_wp2_with fail
 refine (HW3.out _ HSa.out.P).mono ?_
 rintro e wx3 ⟨rfl,hP,hT⟩
 have HSx3:=Lib.hid (HSa.out.call hP hT)
 clear hP hT HSa
 go_wp2_with fail
 refine (HW4.out _ HSx3.out.P).mono ?_
 rintro e wx4 ⟨rfl,hP,hT⟩
 have HSx4:=Lib.hid (HSx3.out.call hP hT)
 clear hP hT HSx3
 go_wp2_with fail
 refine (HW5.out _ HSx4.out.P).mono ?_
 rintro e wx5 ⟨rfl,hP,hT⟩
 have HSx5:=Lib.hid (HSx4.out.call hP hT)
 clear hP hT HSx4
 have HSe:=HSx5
 clear HSx5
 have hcs:=HSe.out.P.cells
 have q1:=hcs.c1
 have f1:=hcs.f1
 have hle:=HSe.out.P.le
 have hlen:=HSe.out.P.len
 have hpl:=HSe.out.P.lt
 clear hcs
 obtain ⟨r0,r1,r2,r3,r4,rf0,rf1,rf2,rf3,rf4,rl⟩:=HSe.out.c5 0 rfl
 obtain ⟨rn,rm⟩:=HSe.out.ne 0 rfl
 obtain ⟨t0,t1,t2,t3,tf0,tf1,tf2,tf3,tl⟩:=HSe.out.c4 1 rfl
 obtain ⟨tn,tm⟩:=HSe.out.ne 1 rfl
 have ht1:t.text = wRem:=by rw [HTT.out]
 rw [ht1] at t1
 clear ht1
 go_wp2_with fail
 have HS5:=Lib.hid (((HSe.out.inc hi).setL 0 rfl 0 (.int .i64 5)).setL 0 rfl 0 (.int .i64 7))
 clear HSe
 refine (HTX.out _ HS5.out.P).mono ?_
 rintro e w6 ⟨rfl,hP,hT⟩
 have HS6:=Lib.hid (HS5.out.call hP hT)
 clear hP hT HS5
 clear q1 f1 hle hlen hpl
 clear r0 r1 r2 r3 r4 rf0 rf1 rf2 rf3 rf4 rl
 clear t0 t1 t2 t3 tf0 tf1 tf2 tf3 tl
 clear rn rm tn tm
 obtain ⟨r0,r1,r2,r3,r4,rf0,rf1,rf2,rf3,rf4,rl⟩:=HS6.out.c5 0 rfl
 go_wp2_with fail
 have HSd:=Lib.hid (HS6.out.setL 0 rfl 1 (.string ⟨nt.toArray⟩))
 clear HS6
 refine (HM2.out _ HSd.out.P).mono ?_
 rintro e w7 ⟨⟨uw7,rfl⟩,hP,hT⟩
 have HS7:=Lib.hid (HSd.out.call hP hT)
 clear hP hT HSd
 clear r0 r1 r2 r3 r4 rf0 rf1 rf2 rf3 rf4 rl
 obtain ⟨r0,r1,r2,r3,r4,rf0,rf1,rf2,rf3,rf4,rl⟩:=HS7.out.c5 0 rfl
 obtain ⟨q0,q1,q2,q3,q4,qf0,qf1,qf2,qf3,qf4,ql⟩:=HS7.out.c5 2 rfl
 go_wp2_with fail
 have HSF:=Lib.hid ((HS7.out.set5 2 rfl (.int .i64 7) (.string ⟨nt.toArray⟩) (.float .f64 0) (.slice none 0 0) (.int .i64 t.at')))
 generalize (((((w7.setCell _ _).setCell _ _).setCell _ _).setCell _ _).setCell _ _) = wf at HSF ⊢
 obtain ⟨z0,z1,z2,z3,z4,zf0,zf1,zf2,zf3,zf4,zl⟩:=HSF.out.c5 2 rfl
 refine bodyPost_ret (v:=.agg #[.int .i64 7,.string ⟨nt.toArray⟩,.float .f64 0,.slice none 0 0,.int .i64 t.at']) (by simp [results,Tryz.results79,go_sem,z0,z1,z2,z3,z4]) rfl ?_
 exact HSF.out.leaf (.mk 7 nt 0 [] t.at') rfl
set_option maxHeartbeats 4000000 in
theorem step_copy {p:Nat} {v:Value} {E:PE} {f:Nat} (J:Jobs p v E f) (s:PS) (x:Nd) (s2:PS) (W:World) (hf:16 * ms E s + 8 ≤ f) (hr:stepR E f s = some (x,s2)) (h:PAt W p v E s) (h1:isW E wCopy s = true) :
  Calls Tryz.prog 79 #[PP p] W (NodeR p v E s2 x W):=by
 have HS:=Lib.hid (SW.start h)
 have HTA:=Lib.hid (fun W h=>t_any p v E s W h)
 have HW1:=Lib.hid (fun W h=>word_fix p v E s _ wCopy _ W h rfl h1)
 obtain ⟨hi,hmi⟩:=isW_inc h1
 rw [stepR,if_pos h1] at hr
 have hm1:=ms_pText E (inc (sT E s))
 have HTX:=Lib.hid (fun W h=>text_any p v E (inc (sT E s)) W h)
 generalize pText E (inc (sT E s)) = tx1 at *
 obtain ⟨⟨nt,na⟩,s4⟩:=tx1
 simp only at HTX hm1 hr
 have HTY:=Lib.hid (fun W h=>text_any p v E s4 W h)
 generalize pText E s4 = tx2 at *
 obtain ⟨⟨ut,ua⟩,s5⟩:=tx2
 simp only at HTY hr
 have HWF:=Lib.hid (fun W h=>word_any p v E s5 wFrom _ W h rfl)
 have hif:isW E wFrom s5 = true → (sT E s5).i < E.ts.length:=fun h=>(isW_inc h).1
 rw [named] at hr
 have HNM:=Lib.hid (fun W h=>name_any p v E (inc (sT E s5)) W h)
 generalize pName E (inc (sT E s5)) = nmx at *
 obtain ⟨⟨gt,ga⟩,s6⟩:=nmx
 simp only at HNM hr
 have HR:=Lib.hid hr
 have HIF:=Lib.hid hif
 clear J hf hr h h1 hmi hm1 hif
 generalize isW E wFrom s5 = bf at *
 generalize sT E s5 = s7 at *
 generalize sT E s = s1 at *
 generalize tk E s = t at *
 go_enter Tryz.func79,Tryz.ntmps79
 go_wp2_with fail
 have HS0:=Lib.hid (HS.out.alloc (ndO zero (.slice none 0 0)))
 clear HS
 refine (HTA.out _ HS0.out.P).mono ?_
 rintro e w2 ⟨rfl,hP,hT⟩
 have HS1:=Lib.hid (HS0.out.call hP hT)
 clear hP hT HS0
 have HS2:=Lib.hid ((HS1.out.alloc (tnO t)).allocAt (ksO 0 [] none 0 0 t.at') (w2.heap.size + 1) (by simp))
 clear HS1 HTA
 go_wp2_with fail
 refine (HW1.out _ HS2.out.P).mono ?_
 rintro e w3 ⟨rfl,hP,hT⟩
 have HS3:=Lib.hid (HS2.out.call hP hT)
 clear hP hT HS2
 have hcs:=HS3.out.P.cells
 have q1:=hcs.c1
 have f1:=hcs.f1
 have hle:=HS3.out.P.le
 have hlen:=HS3.out.P.len
 have hpl:=HS3.out.P.lt
 clear hcs
 obtain ⟨r0,r1,r2,r3,r4,rf0,rf1,rf2,rf3,rf4,rl⟩:=HS3.out.c5 0 rfl
 obtain ⟨rn,rm⟩:=HS3.out.ne 0 rfl
 go_wp2_with fail
 have HSb:=Lib.hid ((HS3.out.inc hi).setL 0 rfl 0 (.int .i64 3))
 clear HS3
 refine (HTX.out _ HSb.out.P).mono ?_
 rintro e w4 ⟨rfl,hP,hT⟩
 have HS4:=Lib.hid (HSb.out.call hP hT)
 clear hP hT HSb
 clear q1 f1 hle hlen hpl
 clear r0 r1 r2 r3 r4 rf0 rf1 rf2 rf3 rf4 rl
 clear rn rm
 obtain ⟨r0,r1,r2,r3,r4,rf0,rf1,rf2,rf3,rf4,rl⟩:=HS4.out.c5 0 rfl
 go_wp2_with fail
 have HSc:=Lib.hid (HS4.out.setL 0 rfl 1 (.string ⟨nt.toArray⟩))
 clear HS4
 refine (HTY.out _ HSc.out.P).mono ?_
 rintro e w5 ⟨rfl,hP,hT⟩
 have HS5:=Lib.hid (HSc.out.call hP hT)
 clear hP hT HSc
 clear r0 r1 r2 r3 r4 rf0 rf1 rf2 rf3 rf4 rl
 obtain ⟨t0,t1,t2,t3,tf0,tf1,tf2,tf3,tl⟩:=HS5.out.c4 1 rfl
 have HS6:=Lib.hid (HS5.out.alloc (ksO 14 [] none 0 0 t.at'))
 clear HS5
 go_wp2_with fail
 refine (HWF.out _ HS6.out.P).mono ?_
 rintro e w7 ⟨rfl,hP,hT⟩
 have HS7:=Lib.hid (HS6.out.call hP hT)
 clear hP hT HS6
 clear t0 t1 t2 t3 tf0 tf1 tf2 tf3 tl
 have hr:=HR.out
 clear HR
 generalize w5.heap.size = bn at *
 generalize w2.heap.size + 1 = bx at *
 generalize w2.heap.size = bt at *
 cases bf with
 | false =>
  simp only [Bool.false_eq_true,↓reduceIte] at hr
  cases hr
  have HM2:=Lib.hid (fun W h=>must_any p v E s7 [59] W h)
  clear HIF HNM
  obtain ⟨c0,c1,c2,c3,c4,-,-,-,-,-,cl⟩:=HS7.out.c5 0 rfl
  have r3:=(HS7.out.c5 1 rfl).c3
  have rf3:=(HS7.out.c5 1 rfl).f3
  have rl:=(HS7.out.c5 1 rfl).lt
  go_wp2_with fail
  clear c0 c1 c2 c3 c4 cl
  clear r3 rf3 rl
  have HSd:=Lib.hid (SW.buildAt [_,_] (HS7.out.addNil.addNil.setL 1 rfl 3 (.slice (some ⟨w7.heap.size,0,none⟩) 2 2)) [.mk 16 ut 0 [] ua,.mk 14 [] 0 [] t.at'] rfl (by simp) w7.heap.size (by simp) #[.int .i64 16,.string ⟨ut.toArray⟩,.float .f64 0,.slice none 0 0,.int .i64 ua,.int .i64 14,.string ⟨#[]⟩,.float .f64 0,.slice none 0 0,.int .i64 t.at'] rfl 2 rfl)
  clear HS7
  refine (HM2.out _ HSd.out.P).mono ?_
  rintro e w9 ⟨⟨uw9,rfl⟩,hP,hT⟩
  have HS9:=Lib.hid (HSd.out.call hP hT)
  clear hP hT HSd
  obtain ⟨r0,r1,r2,r3,r4,rf0,rf1,rf2,rf3,rf4,rl⟩:=HS9.out.c5 1 rfl
  obtain ⟨q0,q1,q2,q3,q4,qf0,qf1,qf2,qf3,qf4,ql⟩:=HS9.out.c5 3 rfl
  go_wp2_with fail
  have HSF:=Lib.hid ((HS9.out.set5 3 rfl (.int .i64 3) (.string ⟨nt.toArray⟩) (.float .f64 0) (.slice (some ⟨w7.heap.size,0,none⟩) 2 2) (.int .i64 t.at')))
  generalize (((((w9.setCell _ _).setCell _ _).setCell _ _).setCell _ _).setCell _ _) = wf at HSF ⊢
  obtain ⟨z0,z1,z2,z3,z4,zf0,zf1,zf2,zf3,zf4,zl⟩:=HSF.out.c5 3 rfl
  refine bodyPost_ret (v:=.agg #[.int .i64 3,.string ⟨nt.toArray⟩,.float .f64 0,.slice (some ⟨w7.heap.size,0,none⟩) 2 2,.int .i64 t.at']) (by simp [results,Tryz.results79,go_sem,z0,z1,z2,z3,z4]) rfl ?_
  exact HSF.out.node (List.mem_cons_self ..) (.mk 3 nt 0 [.mk 16 ut 0 [] ua,.mk 14 [] 0 [] t.at'] t.at') rfl
 | true =>
  simp only [↓reduceIte] at hr
  cases hr
  have hif:=HIF.out rfl
  have HM2:=Lib.hid (fun W h=>must_any p v E s6 [59] W h)
  clear HIF
  have hcs:=HS7.out.P.cells
  have q1:=hcs.c1
  have f1:=hcs.f1
  have hle:=HS7.out.P.le
  have hlen:=HS7.out.P.len
  have hpl:=HS7.out.P.lt
  clear hcs
  go_wp2_with fail
  have HSd:=Lib.hid (HS7.out.inc hif)
  clear HS7
  refine (HNM.out _ HSd.out.P).mono ?_
  rintro e we ⟨rfl,hP,hT⟩
  have HSe:=Lib.hid (HSd.out.call hP hT)
  clear hP hT HSd
  clear q1 f1 hle hlen hpl
  obtain ⟨c0,c1,c2,c3,c4,cf0,cf1,cf2,cf3,cf4,cl⟩:=HSe.out.c5 0 rfl
  have r3:=(HSe.out.c5 1 rfl).c3
  have rf3:=(HSe.out.c5 1 rfl).f3
  have rl:=(HSe.out.c5 1 rfl).lt
  go_upto_region 16 with fail
  have HSf:=Lib.hid ((HSe.out.setL 0 rfl 1 (.string ⟨gt.toArray⟩)).setL 0 rfl 4 (.int .i64 ga))
  generalize ((we.setCell _ _).setCell _ _) = wq at HSf ⊢
  clear HSe
  clear c0 c1 c2 c3 c4 cf0 cf1 cf2 cf3 cf4 cl
  clear r3 rf3 rl
  obtain ⟨c0,c1,c2,c3,c4,-,-,-,-,-,cl⟩:=HSf.out.c5 0 rfl
  have r3:=(HSf.out.c5 1 rfl).c3
  have rf3:=(HSf.out.c5 1 rfl).f3
  have rl:=(HSf.out.c5 1 rfl).lt
  go_wp2_with fail
  clear c0 c1 c2 c3 c4 cl
  clear r3 rf3 rl
  have HSd:=Lib.hid (SW.buildAt [_,_] (HSf.out.addNil.addNil.setL 1 rfl 3 (.slice (some ⟨wq.heap.size,0,none⟩) 2 2)) [.mk 16 ut 0 [] ua,.mk 14 gt 0 [] ga] rfl (by simp) wq.heap.size (by simp) #[.int .i64 16,.string ⟨ut.toArray⟩,.float .f64 0,.slice none 0 0,.int .i64 ua,.int .i64 14,.string ⟨gt.toArray⟩,.float .f64 0,.slice none 0 0,.int .i64 ga] rfl 2 rfl)
  clear HSf
  refine (HM2.out _ HSd.out.P).mono ?_
  rintro e w9 ⟨⟨uw9,rfl⟩,hP,hT⟩
  have HS9:=Lib.hid (HSd.out.call hP hT)
  clear hP hT HSd
  obtain ⟨r0,r1,r2,r3,r4,rf0,rf1,rf2,rf3,rf4,rl⟩:=HS9.out.c5 1 rfl
  obtain ⟨q0,q1,q2,q3,q4,qf0,qf1,qf2,qf3,qf4,ql⟩:=HS9.out.c5 3 rfl
  go_wp2_with fail
  have HSF:=Lib.hid ((HS9.out.set5 3 rfl (.int .i64 3) (.string ⟨nt.toArray⟩) (.float .f64 0) (.slice (some ⟨wq.heap.size,0,none⟩) 2 2) (.int .i64 t.at')))
  generalize (((((w9.setCell _ _).setCell _ _).setCell _ _).setCell _ _).setCell _ _) = wf at HSF ⊢
  obtain ⟨z0,z1,z2,z3,z4,zf0,zf1,zf2,zf3,zf4,zl⟩:=HSF.out.c5 3 rfl
  refine bodyPost_ret (v:=.agg #[.int .i64 3,.string ⟨nt.toArray⟩,.float .f64 0,.slice (some ⟨wq.heap.size,0,none⟩) 2 2,.int .i64 t.at']) (by simp [results,Tryz.results79,go_sem,z0,z1,z2,z3,z4]) rfl ?_
  exact HSF.out.node (List.mem_cons_self ..) (.mk 3 nt 0 [.mk 16 ut 0 [] ua,.mk 14 gt 0 [] ga] t.at') rfl
theorem field_tok0 (w:World) (a b c d:Value):(Instr.field 98 (.agg #[a,b,c,d]) 0).run Tryz.prog w = .ok a w:=by kernel_rfl
theorem field_tok3 (w:World) (a b c d:Value):(Instr.field 98 (.agg #[a,b,c,d]) 3).run Tryz.prog w = .ok d w:=by kernel_rfl
attribute [local go_sem] field_tok0 field_tok3
end Go.Proofs.YtmfpmandkhiknaaGreatDoor.par
