/-
  Proved: the methods of the document's parser, all of them; what step returns (written by wip/bin/par11.py). Conditions: as each theorem says.
  Proved: what step of the document's parser returns: copy, all. Conditions: as each theorem says.
  Proved: what stage of the document's parser returns. Conditions: as each theorem says.
-/
import Derived.Test.YtmfpmandkhiknaaGreatDoorPr22
set_option linter.unusedVariables false
set_option linter.unusedSimpArgs false
namespace Go.Proofs.YtmfpmandkhiknaaGreatDoor.par
open Go.RowKit
open heap
open lex (Tk TRow TkAt run_store_float add0)
set_option maxRecDepth 100000
attribute [local go_sem] run_store_float
theorem jobs_all (p:Nat) (v:Value) (E:PE) (f:Nat):Jobs p v E f:=by
 induction f using Nat.strongRecOn with
 | ind f ih =>
  cases f with
  | zero=>exact ⟨fun l li s x s2 W h hl hf=>by simp only [rank] at hf;omega,fun s x s2 W hf=>by simp only [rank] at hf;omega,fun s x s2 W hf=>by simp only [rank] at hf;omega,fun s x s2 W hf=>by simp only [rank] at hf;omega,fun s x s2 W hf=>by simp only [rank] at hf;omega,fun s x s2 W hf=>by simp only [rank] at hf;omega⟩
  | succ f =>
   have J:∀ k,k ≤ f → Jobs p v E k:=fun k hk=>ih k (by omega)
   have J0:=J f (Nat.le_refl _)
   exact ⟨fun l li s x s2 W h hl hf hr hp=>by subst h;exact bin_step J l hl s x s2 W hf hr hp,
    fun s x s2 W hf hr hp=>unary_step J0 s x s2 W hf hr hp,
    fun s x s2 W hf hr hp=>inner_step J0 s x s2 W hf hr hp,
    fun s x s2 W hf hr hp=>primary_step J s x s2 W hf hr hp,
    fun s x s2 W hf hr hp=>block_step J s x s2 W hf hr hp,
    fun s x s2 W hf hr hp=>stmt_step J0 s x s2 W (by simp only [rank] at hf;exact hf) hr hp⟩
set_option maxHeartbeats 4000000 in
theorem step_no {p:Nat} {v:Value} {E:PE} {f:Nat} (J:Jobs p v E f) (s:PS) (x:Nd) (s2:PS) (W:World) (hf:16 * ms E s + 8 ≤ f) (hr:stepR E f s = some (x,s2)) (h:PAt W p v E s) (h1:isW E wCopy s = false) (h2:isW E wRun s = false) (h3:isW E wWork s = false) (h4:isW E wMk s = false) (h5:isW E wRem s = false) :
  Calls Tryz.prog 79 #[PP p] W (NodeR p v E s2 x W):=by
 have HS:=Lib.hid (SW.start h)
 have HTA:=Lib.hid (fun W h=>t_any p v E s W h)
 have HW1:=Lib.hid (fun W h=>word_fix p v E s _ wCopy _ W h rfl h1)
 have HW2:=Lib.hid (fun W h=>word_fix p v E s _ wRun _ W h rfl h2)
 have HW3:=Lib.hid (fun W h=>word_fix p v E s _ wWork _ W h rfl h3)
 have HW4:=Lib.hid (fun W h=>word_fix p v E s _ wMk _ W h rfl h4)
 have HW5:=Lib.hid (fun W h=>word_fix p v E s _ wRem _ W h rfl h5)
 rw [stepR,if_neg (by rw [h1];exact Bool.false_ne_true),if_neg (by rw [h2];exact Bool.false_ne_true),if_neg (by simp [h3,h4,h5])] at hr
 cases hr
 have HWR:=Lib.hid (fun W h=>wrong_any p v E (sT E s) W h)
 clear J hf h h1 h2 h3 h4 h5
 generalize wrong E (sT E s) = s9 at *
 generalize sT E s = s1 at *
 generalize tk E s = t at *
 go_enter Tryz.func79,Tryz.ntmps79
 go_wp2_with fail
 have HS0:=Lib.hid (HS.out.alloc (ndO zero (.slice none 0 0)))
 clear HS
 refine (HTA.out _ HS0.out.P).mono ?_
 rintro e w2 ⟨rfl,hP,hT⟩
 have HS1:=Lib.hid (HS0.out.call hP hT)
 clear hP hT HS0
 have HS2:=Lib.hid ((HS1.out.alloc (tnO t)).allocAt (ksO 0 [] none 0 0 t.at') (w2.heap.size + 1) (by simp))
 clear HS1 HTA
 go_wp2_with fail
 refine (HW1.out _ HS2.out.P).mono ?_
 rintro e w3 ⟨rfl,hP,hT⟩
 have HS3:=Lib.hid (HS2.out.call hP hT)
 clear hP hT HS2
 go_wp2_with fail
 refine (HW2.out _ HS3.out.P).mono ?_
 rintro e wa ⟨rfl,hP,hT⟩
 have HSa:=Lib.hid (HS3.out.call hP hT)
 clear hP hT HS3
 go_wp2_with fail
 refine (HW3.out _ HSa.out.P).mono ?_
 rintro e wb ⟨rfl,hP,hT⟩
 have HSb:=Lib.hid (HSa.out.call hP hT)
 clear hP hT HSa
 go_wp2_with fail
 refine (HW4.out _ HSb.out.P).mono ?_
 rintro e wc ⟨rfl,hP,hT⟩
 have HSc:=Lib.hid (HSb.out.call hP hT)
 clear hP hT HSb
 go_wp2_with fail
 refine (HW5.out _ HSc.out.P).mono ?_
 rintro e wd ⟨rfl,hP,hT⟩
 have HSd:=Lib.hid (HSc.out.call hP hT)
 clear hP hT HSc
 go_wp2_with fail
 refine (HWR.out _ HSd.out.P).mono ?_
 rintro e w7 ⟨⟨uw7,rfl⟩,hP,hT⟩
 have HS7:=Lib.hid (HSd.out.call hP hT)
 clear hP hT HSd
 obtain ⟨r0,r1,r2,r3,r4,rf0,rf1,rf2,rf3,rf4,rl⟩:=HS7.out.c5 0 rfl
 obtain ⟨q0,q1,q2,q3,q4,qf0,qf1,qf2,qf3,qf4,ql⟩:=HS7.out.c5 2 rfl
 go_wp2_with fail
 have HSF:=Lib.hid ((HS7.out.set5 2 rfl (.int .i64 0) (.string ⟨#[]⟩) (.float .f64 0) (.slice none 0 0) (.int .i64 t.at')))
 generalize (((((w7.setCell _ _).setCell _ _).setCell _ _).setCell _ _).setCell _ _) = wf at HSF ⊢
 obtain ⟨z0,z1,z2,z3,z4,zf0,zf1,zf2,zf3,zf4,zl⟩:=HSF.out.c5 2 rfl
 refine bodyPost_ret (v:=.agg #[.int .i64 0,.string ⟨#[]⟩,.float .f64 0,.slice none 0 0,.int .i64 t.at']) (by simp [results,Tryz.results79,go_sem,z0,z1,z2,z3,z4]) rfl ?_
 exact HSF.out.leaf (.mk 0 [] 0 [] t.at') rfl
set_option maxHeartbeats 4000000 in
theorem step_run {p:Nat} {v:Value} {E:PE} {f:Nat} (J:Jobs p v E f) (s:PS) (x:Nd) (s2:PS) (W:World) (hf:16 * ms E s + 8 ≤ f) (hr:stepR E f s = some (x,s2)) (h:PAt W p v E s) (h1:isW E wCopy s = false) (h2:isW E wRun s = true) :
  Calls Tryz.prog 79 #[PP p] W (NodeR p v E s2 x W):=by
 have HS:=Lib.hid (SW.start h)
 have HTA:=Lib.hid (fun W h=>t_any p v E s W h)
 have HW1:=Lib.hid (fun W h=>word_fix p v E s _ wCopy _ W h rfl h1)
 have HW2:=Lib.hid (fun W h=>word_fix p v E s _ wRun _ W h rfl h2)
 obtain ⟨hi,hmi⟩:=isW_inc h2
 rw [stepR,if_neg (by rw [h1];exact Bool.false_ne_true),if_pos h2] at hr
 obtain ⟨y,s4,h6,h7,-⟩:=(run_ends E f .block (inc (sT E s)) (by simp [okJ]) (by simp only [rank];omega)).one rfl
 simp only [h6] at hr
 cases hr
 have HJ:=Lib.hid (fun W h=>J.block _ y s2 W (by simp only [rank];omega) h6 h)
 clear J hf h h1 h2 hmi h6 h7
 generalize sT E s = s1 at *
 generalize tk E s = t at *
 go_enter Tryz.func79,Tryz.ntmps79
 go_wp2_with fail
 have HS0:=Lib.hid (HS.out.alloc (ndO zero (.slice none 0 0)))
 clear HS
 refine (HTA.out _ HS0.out.P).mono ?_
 rintro e w2 ⟨rfl,hP,hT⟩
 have HS1:=Lib.hid (HS0.out.call hP hT)
 clear hP hT HS0
 have HS2:=Lib.hid ((HS1.out.alloc (tnO t)).allocAt (ksO 0 [] none 0 0 t.at') (w2.heap.size + 1) (by simp))
 clear HS1 HTA
 go_wp2_with fail
 refine (HW1.out _ HS2.out.P).mono ?_
 rintro e w3 ⟨rfl,hP,hT⟩
 have HS3:=Lib.hid (HS2.out.call hP hT)
 clear hP hT HS2
 go_wp2_with fail
 refine (HW2.out _ HS3.out.P).mono ?_
 rintro e wa ⟨rfl,hP,hT⟩
 have HSe:=Lib.hid (HS3.out.call hP hT)
 clear hP hT HS3
 have hcs:=HSe.out.P.cells
 have q1:=hcs.c1
 have f1:=hcs.f1
 have hle:=HSe.out.P.le
 have hlen:=HSe.out.P.len
 have hpl:=HSe.out.P.lt
 clear hcs
 obtain ⟨r0,r1,r2,r3,r4,rf0,rf1,rf2,rf3,rf4,rl⟩:=HSe.out.c5 0 rfl
 obtain ⟨rn,rm⟩:=HSe.out.ne 0 rfl
 go_wp2_with fail
 have HS5:=Lib.hid ((HSe.out.inc hi).setL 0 rfl 0 (.int .i64 4))
 clear HSe
 refine (HJ.out _ HS5.out.P).mono ?_
 rintro e w6 ⟨aw6,nw6,Sw6,rfl,hk,hS,hP,hT⟩
 have HS6:=Lib.hid (HS5.out.callT hk hS hP hT)
 clear hk hS hP hT
 clear q1 f1 hle hlen hpl
 clear r0 r1 r2 r3 r4 rf0 rf1 rf2 rf3 rf4 rl
 clear rn rm HS5
 obtain ⟨r0,r1,r2,r3,r4,rf0,rf1,rf2,rf3,rf4,rl⟩:=HS6.out.c5 0 rfl
 go_upto_region 34 with fail
 have HSd:=Lib.hid (SW.buildAt [_] (HS6.out.setL 0 rfl 3 (.slice (some ⟨w6.heap.size,0,none⟩) 1 1)) [y] rfl (by simp) w6.heap.size (by simp) #[.int .i64 y.kind,.string ⟨y.text.toArray⟩,.float .f64 y.num,.slice aw6 y.kids.length nw6,.int .i64 y.at'] rfl 1 rfl)
 clear HS6
 generalize hw9:(World.alloc (w6.setCell _ _) _) = wg at HSd ⊢
 clear hw9
 clear r0 r1 r2 r3 r4 rf0 rf1 rf2 rf3 rf4 rl
 obtain ⟨r0,r1,r2,r3,r4,rf0,rf1,rf2,rf3,rf4,rl⟩:=HSd.out.c5 0 rfl
 obtain ⟨q0,q1,q2,q3,q4,qf0,qf1,qf2,qf3,qf4,ql⟩:=HSd.out.c5 2 rfl
 go_wp2_with fail
 have HSF:=Lib.hid ((HSd.out.set5 2 rfl (.int .i64 4) (.string ⟨#[]⟩) (.float .f64 0) (.slice (some ⟨w6.heap.size,0,none⟩) 1 1) (.int .i64 t.at')))
 generalize (((((wg.setCell _ _).setCell _ _).setCell _ _).setCell _ _).setCell _ _) = wf at HSF ⊢
 obtain ⟨z0,z1,z2,z3,z4,zf0,zf1,zf2,zf3,zf4,zl⟩:=HSF.out.c5 2 rfl
 refine bodyPost_ret (v:=.agg #[.int .i64 4,.string ⟨#[]⟩,.float .f64 0,.slice (some ⟨w6.heap.size,0,none⟩) 1 1,.int .i64 t.at']) (by simp [results,Tryz.results79,go_sem,z0,z1,z2,z3,z4]) rfl ?_
 exact HSF.out.node (List.mem_cons_self ..) (.mk 4 [] 0 [y] t.at') rfl
set_option maxHeartbeats 4000000 in
theorem step_work {p:Nat} {v:Value} {E:PE} {f:Nat} (J:Jobs p v E f) (s:PS) (x:Nd) (s2:PS) (W:World) (hf:16 * ms E s + 8 ≤ f) (hr:stepR E f s = some (x,s2)) (h:PAt W p v E s) (h1:isW E wCopy s = false) (h2:isW E wRun s = false) (h3:isW E wWork s = true) :
  Calls Tryz.prog 79 #[PP p] W (NodeR p v E s2 x W):=by
 have HS:=Lib.hid (SW.start h)
 have HTA:=Lib.hid (fun W h=>t_any p v E s W h)
 have HW1:=Lib.hid (fun W h=>word_fix p v E s _ wCopy _ W h rfl h1)
 have HW2:=Lib.hid (fun W h=>word_fix p v E s _ wRun _ W h rfl h2)
 have HW3:=Lib.hid (fun W h=>word_fix p v E s _ wWork _ W h rfl h3)
 obtain ⟨hi,hmi⟩:=isW_inc h3
 obtain ⟨hk1,hk2⟩:=isW_kind h3
 rw [stepR,if_neg (by rw [h1];exact Bool.false_ne_true),if_neg (by rw [h2];exact Bool.false_ne_true),if_pos (by simp [h3])] at hr
 rw [hk2] at hr
 have hr:some (Nd.mk 5 (pText E (inc (sT E s))).1.1 0 [] (tk E s).at',must E [59] (pText E (inc (sT E s))).2) = some (x,s2):=hr
 cases hr
 have HTX:=Lib.hid (fun W h=>text_any p v E (inc (sT E s)) W h)
 have HM2:=Lib.hid (fun W h=>must_any p v E (pText E (inc (sT E s))).2 [59] W h)
 clear J hf h h1 h2 h3 hmi
 generalize must E [59] (pText E (inc (sT E s))).2 = s9 at *
 generalize pText E (inc (sT E s)) = nmx at *
 obtain ⟨⟨nt,na⟩,s5⟩:=nmx
 simp only at HTX HM2 ⊢
 generalize sT E s = s1 at *
 generalize tk E s = t at *
 obtain ⟨kd,u,nm,a⟩:=t
 simp only at hk1 hk2 ⊢
 subst hk1 hk2
 obtain ⟨t,hT⟩:∃ t:Tn,t = ⟨1,wWork,nm,a⟩:=⟨_,rfl⟩
 rw [← hT] at HTA
 have HTT:=Lib.hid hT
 clear hT
 rw [show a = t.at' by rw [HTT.out]]
 go_enter Tryz.func79,Tryz.ntmps79
 go_wp2_with fail
 have HS0:=Lib.hid (HS.out.alloc (ndO zero (.slice none 0 0)))
 clear HS
 refine (HTA.out _ HS0.out.P).mono ?_
 rintro e w2 ⟨rfl,hP,hT⟩
 have HS1:=Lib.hid (HS0.out.call hP hT)
 clear hP hT HS0
 have HS2:=Lib.hid ((HS1.out.alloc (tnO t)).allocAt (ksO 0 [] none 0 0 t.at') (w2.heap.size + 1) (by simp))
 clear HS1 HTA
 go_wp2_with fail
 refine (HW1.out _ HS2.out.P).mono ?_
 rintro e w3 ⟨rfl,hP,hT⟩
 have HS3:=Lib.hid (HS2.out.call hP hT)
 clear hP hT HS2
 go_wp2_with fail
 refine (HW2.out _ HS3.out.P).mono ?_
 rintro e wa ⟨rfl,hP,hT⟩
 have HSa:=Lib.hid (HS3.out.call hP hT)
 clear hP hT HS3
 go_wp2_with fail
 refine (HW3.out _ HSa.out.P).mono ?_
 rintro e wx3 ⟨rfl,hP,hT⟩
 have HSx3:=Lib.hid (HSa.out.call hP hT)
 clear hP hT HSa
 have HSe:=HSx3
 clear HSx3
 have hcs:=HSe.out.P.cells
 have q1:=hcs.c1
 have f1:=hcs.f1
 have hle:=HSe.out.P.le
 have hlen:=HSe.out.P.len
 have hpl:=HSe.out.P.lt
 clear hcs
 obtain ⟨r0,r1,r2,r3,r4,rf0,rf1,rf2,rf3,rf4,rl⟩:=HSe.out.c5 0 rfl
 obtain ⟨rn,rm⟩:=HSe.out.ne 0 rfl
 obtain ⟨t0,t1,t2,t3,tf0,tf1,tf2,tf3,tl⟩:=HSe.out.c4 1 rfl
 obtain ⟨tn,tm⟩:=HSe.out.ne 1 rfl
 have ht1:t.text = wWork:=by rw [HTT.out]
 rw [ht1] at t1
 clear ht1
 go_wp2_with fail
 have HS5:=Lib.hid ((HSe.out.inc hi).setL 0 rfl 0 (.int .i64 5))
 clear HSe
 refine (HTX.out _ HS5.out.P).mono ?_
 rintro e w6 ⟨rfl,hP,hT⟩
 have HS6:=Lib.hid (HS5.out.call hP hT)
 clear hP hT HS5
 clear q1 f1 hle hlen hpl
 clear r0 r1 r2 r3 r4 rf0 rf1 rf2 rf3 rf4 rl
 clear t0 t1 t2 t3 tf0 tf1 tf2 tf3 tl
 clear rn rm tn tm
 obtain ⟨r0,r1,r2,r3,r4,rf0,rf1,rf2,rf3,rf4,rl⟩:=HS6.out.c5 0 rfl
 go_wp2_with fail
 have HSd:=Lib.hid (HS6.out.setL 0 rfl 1 (.string ⟨nt.toArray⟩))
 clear HS6
 refine (HM2.out _ HSd.out.P).mono ?_
 rintro e w7 ⟨⟨uw7,rfl⟩,hP,hT⟩
 have HS7:=Lib.hid (HSd.out.call hP hT)
 clear hP hT HSd
 clear r0 r1 r2 r3 r4 rf0 rf1 rf2 rf3 rf4 rl
 obtain ⟨r0,r1,r2,r3,r4,rf0,rf1,rf2,rf3,rf4,rl⟩:=HS7.out.c5 0 rfl
 obtain ⟨q0,q1,q2,q3,q4,qf0,qf1,qf2,qf3,qf4,ql⟩:=HS7.out.c5 2 rfl
 go_wp2_with fail
 have HSF:=Lib.hid ((HS7.out.set5 2 rfl (.int .i64 5) (.string ⟨nt.toArray⟩) (.float .f64 0) (.slice none 0 0) (.int .i64 t.at')))
 generalize (((((w7.setCell _ _).setCell _ _).setCell _ _).setCell _ _).setCell _ _) = wf at HSF ⊢
 obtain ⟨z0,z1,z2,z3,z4,zf0,zf1,zf2,zf3,zf4,zl⟩:=HSF.out.c5 2 rfl
 refine bodyPost_ret (v:=.agg #[.int .i64 5,.string ⟨nt.toArray⟩,.float .f64 0,.slice none 0 0,.int .i64 t.at']) (by simp [results,Tryz.results79,go_sem,z0,z1,z2,z3,z4]) rfl ?_
 exact HSF.out.leaf (.mk 5 nt 0 [] t.at') rfl
set_option maxHeartbeats 4000000 in
theorem step_mk {p:Nat} {v:Value} {E:PE} {f:Nat} (J:Jobs p v E f) (s:PS) (x:Nd) (s2:PS) (W:World) (hf:16 * ms E s + 8 ≤ f) (hr:stepR E f s = some (x,s2)) (h:PAt W p v E s) (h1:isW E wCopy s = false) (h2:isW E wRun s = false) (h3:isW E wWork s = false) (h4:isW E wMk s = true) :
  Calls Tryz.prog 79 #[PP p] W (NodeR p v E s2 x W):=by
 have HS:=Lib.hid (SW.start h)
 have HTA:=Lib.hid (fun W h=>t_any p v E s W h)
 have HW1:=Lib.hid (fun W h=>word_fix p v E s _ wCopy _ W h rfl h1)
 have HW2:=Lib.hid (fun W h=>word_fix p v E s _ wRun _ W h rfl h2)
 have HW3:=Lib.hid (fun W h=>word_fix p v E s _ wWork _ W h rfl h3)
 have HW4:=Lib.hid (fun W h=>word_fix p v E s _ wMk _ W h rfl h4)
 obtain ⟨hi,hmi⟩:=isW_inc h4
 obtain ⟨hk1,hk2⟩:=isW_kind h4
 rw [stepR,if_neg (by rw [h1];exact Bool.false_ne_true),if_neg (by rw [h2];exact Bool.false_ne_true),if_pos (by simp [h4])] at hr
 rw [hk2] at hr
 have hr:some (Nd.mk 6 (pText E (inc (sT E s))).1.1 0 [] (tk E s).at',must E [59] (pText E (inc (sT E s))).2) = some (x,s2):=hr
 cases hr
 have HTX:=Lib.hid (fun W h=>text_any p v E (inc (sT E s)) W h)
 have HM2:=Lib.hid (fun W h=>must_any p v E (pText E (inc (sT E s))).2 [59] W h)
 clear J hf h h1 h2 h3 h4 hmi
 generalize must E [59] (pText E (inc (sT E s))).2 = s9 at *
 generalize pText E (inc (sT E s)) = nmx at *
 obtain ⟨⟨nt,na⟩,s5⟩:=nmx
 simp only at HTX HM2 ⊢
 generalize sT E s = s1 at *
 generalize tk E s = t at *
 obtain ⟨kd,u,nm,a⟩:=t
 simp only at hk1 hk2 ⊢
 subst hk1 hk2
 obtain ⟨t,hT⟩:∃ t:Tn,t = ⟨1,wMk,nm,a⟩:=⟨_,rfl⟩
 rw [← hT] at HTA
 have HTT:=Lib.hid hT
 clear hT
 rw [show a = t.at' by rw [HTT.out]]
 go_enter Tryz.func79,Tryz.ntmps79
 go_wp2_with fail
 have HS0:=Lib.hid (HS.out.alloc (ndO zero (.slice none 0 0)))
 clear HS
 refine (HTA.out _ HS0.out.P).mono ?_
 rintro e w2 ⟨rfl,hP,hT⟩
 have HS1:=Lib.hid (HS0.out.call hP hT)
 clear hP hT HS0
 have HS2:=Lib.hid ((HS1.out.alloc (tnO t)).allocAt (ksO 0 [] none 0 0 t.at') (w2.heap.size + 1) (by simp))
 clear HS1 HTA
 go_wp2_with fail
 refine (HW1.out _ HS2.out.P).mono ?_
 rintro e w3 ⟨rfl,hP,hT⟩
 have HS3:=Lib.hid (HS2.out.call hP hT)
 clear hP hT HS2
 go_wp2_with fail
 refine (HW2.out _ HS3.out.P).mono ?_
 rintro e wa ⟨rfl,hP,hT⟩
 have HSa:=Lib.hid (HS3.out.call hP hT)
 clear hP hT HS3
 go_wp2_with fail
 refine (HW3.out _ HSa.out.P).mono ?_
 rintro e wx3 ⟨rfl,hP,hT⟩
 have HSx3:=Lib.hid (HSa.out.call hP hT)
 clear hP hT HSa
 go_wp2_with fail
 refine (HW4.out _ HSx3.out.P).mono ?_
 rintro e wx4 ⟨rfl,hP,hT⟩
 have HSx4:=Lib.hid (HSx3.out.call hP hT)
 clear hP hT HSx3
 have HSe:=HSx4
 clear HSx4
 have hcs:=HSe.out.P.cells
 have q1:=hcs.c1
 have f1:=hcs.f1
 have hle:=HSe.out.P.le
 have hlen:=HSe.out.P.len
 have hpl:=HSe.out.P.lt
 clear hcs
 obtain ⟨r0,r1,r2,r3,r4,rf0,rf1,rf2,rf3,rf4,rl⟩:=HSe.out.c5 0 rfl
 obtain ⟨rn,rm⟩:=HSe.out.ne 0 rfl
 obtain ⟨t0,t1,t2,t3,tf0,tf1,tf2,tf3,tl⟩:=HSe.out.c4 1 rfl
 obtain ⟨tn,tm⟩:=HSe.out.ne 1 rfl
 have ht1:t.text = wMk:=by rw [HTT.out]
 rw [ht1] at t1
 clear ht1
 go_wp2_with fail
 have HS5:=Lib.hid (((HSe.out.inc hi).setL 0 rfl 0 (.int .i64 5)).setL 0 rfl 0 (.int .i64 6))
 clear HSe
 refine (HTX.out _ HS5.out.P).mono ?_
 rintro e w6 ⟨rfl,hP,hT⟩
 have HS6:=Lib.hid (HS5.out.call hP hT)
 clear hP hT HS5
 clear q1 f1 hle hlen hpl
 clear r0 r1 r2 r3 r4 rf0 rf1 rf2 rf3 rf4 rl
 clear t0 t1 t2 t3 tf0 tf1 tf2 tf3 tl
 clear rn rm tn tm
 obtain ⟨r0,r1,r2,r3,r4,rf0,rf1,rf2,rf3,rf4,rl⟩:=HS6.out.c5 0 rfl
 go_wp2_with fail
 have HSd:=Lib.hid (HS6.out.setL 0 rfl 1 (.string ⟨nt.toArray⟩))
 clear HS6
 refine (HM2.out _ HSd.out.P).mono ?_
 rintro e w7 ⟨⟨uw7,rfl⟩,hP,hT⟩
 have HS7:=Lib.hid (HSd.out.call hP hT)
 clear hP hT HSd
 clear r0 r1 r2 r3 r4 rf0 rf1 rf2 rf3 rf4 rl
 obtain ⟨r0,r1,r2,r3,r4,rf0,rf1,rf2,rf3,rf4,rl⟩:=HS7.out.c5 0 rfl
 obtain ⟨q0,q1,q2,q3,q4,qf0,qf1,qf2,qf3,qf4,ql⟩:=HS7.out.c5 2 rfl
 go_wp2_with fail
 have HSF:=Lib.hid ((HS7.out.set5 2 rfl (.int .i64 6) (.string ⟨nt.toArray⟩) (.float .f64 0) (.slice none 0 0) (.int .i64 t.at')))
 generalize (((((w7.setCell _ _).setCell _ _).setCell _ _).setCell _ _).setCell _ _) = wf at HSF ⊢
 obtain ⟨z0,z1,z2,z3,z4,zf0,zf1,zf2,zf3,zf4,zl⟩:=HSF.out.c5 2 rfl
 refine bodyPost_ret (v:=.agg #[.int .i64 6,.string ⟨nt.toArray⟩,.float .f64 0,.slice none 0 0,.int .i64 t.at']) (by simp [results,Tryz.results79,go_sem,z0,z1,z2,z3,z4]) rfl ?_
 exact HSF.out.leaf (.mk 6 nt 0 [] t.at') rfl
set_option maxHeartbeats 4000000 in
theorem step_rem {p:Nat} {v:Value} {E:PE} {f:Nat} (J:Jobs p v E f) (s:PS) (x:Nd) (s2:PS) (W:World) (hf:16 * ms E s + 8 ≤ f) (hr:stepR E f s = some (x,s2)) (h:PAt W p v E s) (h1:isW E wCopy s = false) (h2:isW E wRun s = false) (h3:isW E wWork s = false) (h4:isW E wMk s = false) (h5:isW E wRem s = true) :
  Calls Tryz.prog 79 #[PP p] W (NodeR p v E s2 x W):=by
 have HS:=Lib.hid (SW.start h)
 have HTA:=Lib.hid (fun W h=>t_any p v E s W h)
 have HW1:=Lib.hid (fun W h=>word_fix p v E s _ wCopy _ W h rfl h1)
 have HW2:=Lib.hid (fun W h=>word_fix p v E s _ wRun _ W h rfl h2)
 have HW3:=Lib.hid (fun W h=>word_fix p v E s _ wWork _ W h rfl h3)
 have HW4:=Lib.hid (fun W h=>word_fix p v E s _ wMk _ W h rfl h4)
 have HW5:=Lib.hid (fun W h=>word_fix p v E s _ wRem _ W h rfl h5)
 obtain ⟨hi,hmi⟩:=isW_inc h5
 obtain ⟨hk1,hk2⟩:=isW_kind h5
 rw [stepR,if_neg (by rw [h1];exact Bool.false_ne_true),if_neg (by rw [h2];exact Bool.false_ne_true),if_pos (by simp [h5])] at hr
 rw [hk2] at hr
 have hr:some (Nd.mk 7 (pText E (inc (sT E s))).1.1 0 [] (tk E s).at',must E [59] (pText E (inc (sT E s))).2) = some (x,s2):=hr
 cases hr
 have HTX:=Lib.hid (fun W h=>text_any p v E (inc (sT E s)) W h)
 have HM2:=Lib.hid (fun W h=>must_any p v E (pText E (inc (sT E s))).2 [59] W h)
 clear J hf h h1 h2 h3 h4 h5 hmi
 generalize must E [59] (pText E (inc (sT E s))).2 = s9 at *
 generalize pText E (inc (sT E s)) = nmx at *
 obtain ⟨⟨nt,na⟩,s5⟩:=nmx
 simp only at HTX HM2 ⊢
 generalize sT E s = s1 at *
 generalize tk E s = t at *
 obtain ⟨kd,u,nm,a⟩:=t
 simp only at hk1 hk2 ⊢
 subst hk1 hk2
 obtain ⟨t,hT⟩:∃ t:Tn,t = ⟨1,wRem,nm,a⟩:=⟨_,rfl⟩
 rw [← hT] at HTA
 have HTT:=Lib.hid hT
 clear hT
 rw [show a = t.at' by rw [HTT.out]]
 go_enter Tryz.func79,Tryz.ntmps79
 go_wp2_with fail
 have HS0:=Lib.hid (HS.out.alloc (ndO zero (.slice none 0 0)))
 clear HS
 refine (HTA.out _ HS0.out.P).mono ?_
 rintro e w2 ⟨rfl,hP,hT⟩
 have HS1:=Lib.hid (HS0.out.call hP hT)
 clear hP hT HS0
 have HS2:=Lib.hid ((HS1.out.alloc (tnO t)).allocAt (ksO 0 [] none 0 0 t.at') (w2.heap.size + 1) (by simp))
 clear HS1 HTA
 go_wp2_with fail
 refine (HW1.out _ HS2.out.P).mono ?_
 rintro e w3 ⟨rfl,hP,hT⟩
 have HS3:=Lib.hid (HS2.out.call hP hT)
 clear hP hT HS2
 go_wp2_with fail
 refine (HW2.out _ HS3.out.P).mono ?_
 rintro e wa ⟨rfl,hP,hT⟩
 have HSa:=Lib.hid (HS3.out.call hP hT)
 clear hP hT HS3
 go_wp2_with fail
 refine (HW3.out _ HSa.out.P).mono ?_
 rintro e wx3 ⟨rfl,hP,hT⟩
 have HSx3:=Lib.hid (HSa.out.call hP hT)
 clear hP hT HSa
 go_wp2_with fail
 refine (HW4.out _ HSx3.out.P).mono ?_
 rintro e wx4 ⟨rfl,hP,hT⟩
 have HSx4:=Lib.hid (HSx3.out.call hP hT)
 clear hP hT HSx3
 go_wp2_with fail
 refine (HW5.out _ HSx4.out.P).mono ?_
 rintro e wx5 ⟨rfl,hP,hT⟩
 have HSx5:=Lib.hid (HSx4.out.call hP hT)
 clear hP hT HSx4
 have HSe:=HSx5
 clear HSx5
 have hcs:=HSe.out.P.cells
 have q1:=hcs.c1
 have f1:=hcs.f1
 have hle:=HSe.out.P.le
 have hlen:=HSe.out.P.len
 have hpl:=HSe.out.P.lt
 clear hcs
 obtain ⟨r0,r1,r2,r3,r4,rf0,rf1,rf2,rf3,rf4,rl⟩:=HSe.out.c5 0 rfl
 obtain ⟨rn,rm⟩:=HSe.out.ne 0 rfl
 obtain ⟨t0,t1,t2,t3,tf0,tf1,tf2,tf3,tl⟩:=HSe.out.c4 1 rfl
 obtain ⟨tn,tm⟩:=HSe.out.ne 1 rfl
 have ht1:t.text = wRem:=by rw [HTT.out]
 rw [ht1] at t1
 clear ht1
 go_wp2_with fail
 have HS5:=Lib.hid (((HSe.out.inc hi).setL 0 rfl 0 (.int .i64 5)).setL 0 rfl 0 (.int .i64 7))
 clear HSe
 refine (HTX.out _ HS5.out.P).mono ?_
 rintro e w6 ⟨rfl,hP,hT⟩
 have HS6:=Lib.hid (HS5.out.call hP hT)
 clear hP hT HS5
 clear q1 f1 hle hlen hpl
 clear r0 r1 r2 r3 r4 rf0 rf1 rf2 rf3 rf4 rl
 clear t0 t1 t2 t3 tf0 tf1 tf2 tf3 tl
 clear rn rm tn tm
 obtain ⟨r0,r1,r2,r3,r4,rf0,rf1,rf2,rf3,rf4,rl⟩:=HS6.out.c5 0 rfl
 go_wp2_with fail
 have HSd:=Lib.hid (HS6.out.setL 0 rfl 1 (.string ⟨nt.toArray⟩))
 clear HS6
 refine (HM2.out _ HSd.out.P).mono ?_
 rintro e w7 ⟨⟨uw7,rfl⟩,hP,hT⟩
 have HS7:=Lib.hid (HSd.out.call hP hT)
 clear hP hT HSd
 clear r0 r1 r2 r3 r4 rf0 rf1 rf2 rf3 rf4 rl
 obtain ⟨r0,r1,r2,r3,r4,rf0,rf1,rf2,rf3,rf4,rl⟩:=HS7.out.c5 0 rfl
 obtain ⟨q0,q1,q2,q3,q4,qf0,qf1,qf2,qf3,qf4,ql⟩:=HS7.out.c5 2 rfl
 go_wp2_with fail
 have HSF:=Lib.hid ((HS7.out.set5 2 rfl (.int .i64 7) (.string ⟨nt.toArray⟩) (.float .f64 0) (.slice none 0 0) (.int .i64 t.at')))
 generalize (((((w7.setCell _ _).setCell _ _).setCell _ _).setCell _ _).setCell _ _) = wf at HSF ⊢
 obtain ⟨z0,z1,z2,z3,z4,zf0,zf1,zf2,zf3,zf4,zl⟩:=HSF.out.c5 2 rfl
 refine bodyPost_ret (v:=.agg #[.int .i64 7,.string ⟨nt.toArray⟩,.float .f64 0,.slice none 0 0,.int .i64 t.at']) (by simp [results,Tryz.results79,go_sem,z0,z1,z2,z3,z4]) rfl ?_
 exact HSF.out.leaf (.mk 7 nt 0 [] t.at') rfl
set_option maxHeartbeats 4000000 in
theorem step_copy {p:Nat} {v:Value} {E:PE} {f:Nat} (J:Jobs p v E f) (s:PS) (x:Nd) (s2:PS) (W:World) (hf:16 * ms E s + 8 ≤ f) (hr:stepR E f s = some (x,s2)) (h:PAt W p v E s) (h1:isW E wCopy s = true) :
  Calls Tryz.prog 79 #[PP p] W (NodeR p v E s2 x W):=by
 have HS:=Lib.hid (SW.start h)
 have HTA:=Lib.hid (fun W h=>t_any p v E s W h)
 have HW1:=Lib.hid (fun W h=>word_fix p v E s _ wCopy _ W h rfl h1)
 obtain ⟨hi,hmi⟩:=isW_inc h1
 rw [stepR,if_pos h1] at hr
 have hm1:=ms_pText E (inc (sT E s))
 have HTX:=Lib.hid (fun W h=>text_any p v E (inc (sT E s)) W h)
 generalize pText E (inc (sT E s)) = tx1 at *
 obtain ⟨⟨nt,na⟩,s4⟩:=tx1
 simp only at HTX hm1 hr
 have HTY:=Lib.hid (fun W h=>text_any p v E s4 W h)
 generalize pText E s4 = tx2 at *
 obtain ⟨⟨ut,ua⟩,s5⟩:=tx2
 simp only at HTY hr
 have HWF:=Lib.hid (fun W h=>word_any p v E s5 wFrom _ W h rfl)
 have hif:isW E wFrom s5 = true → (sT E s5).i < E.ts.length:=fun h=>(isW_inc h).1
 rw [named] at hr
 have HNM:=Lib.hid (fun W h=>name_any p v E (inc (sT E s5)) W h)
 generalize pName E (inc (sT E s5)) = nmx at *
 obtain ⟨⟨gt,ga⟩,s6⟩:=nmx
 simp only at HNM hr
 have HR:=Lib.hid hr
 have HIF:=Lib.hid hif
 clear J hf hr h h1 hmi hm1 hif
 generalize isW E wFrom s5 = bf at *
 generalize sT E s5 = s7 at *
 generalize sT E s = s1 at *
 generalize tk E s = t at *
 go_enter Tryz.func79,Tryz.ntmps79
 go_wp2_with fail
 have HS0:=Lib.hid (HS.out.alloc (ndO zero (.slice none 0 0)))
 clear HS
 refine (HTA.out _ HS0.out.P).mono ?_
 rintro e w2 ⟨rfl,hP,hT⟩
 have HS1:=Lib.hid (HS0.out.call hP hT)
 clear hP hT HS0
 have HS2:=Lib.hid ((HS1.out.alloc (tnO t)).allocAt (ksO 0 [] none 0 0 t.at') (w2.heap.size + 1) (by simp))
 clear HS1 HTA
 go_wp2_with fail
 refine (HW1.out _ HS2.out.P).mono ?_
 rintro e w3 ⟨rfl,hP,hT⟩
 have HS3:=Lib.hid (HS2.out.call hP hT)
 clear hP hT HS2
 have hcs:=HS3.out.P.cells
 have q1:=hcs.c1
 have f1:=hcs.f1
 have hle:=HS3.out.P.le
 have hlen:=HS3.out.P.len
 have hpl:=HS3.out.P.lt
 clear hcs
 obtain ⟨r0,r1,r2,r3,r4,rf0,rf1,rf2,rf3,rf4,rl⟩:=HS3.out.c5 0 rfl
 obtain ⟨rn,rm⟩:=HS3.out.ne 0 rfl
 go_wp2_with fail
 have HSb:=Lib.hid ((HS3.out.inc hi).setL 0 rfl 0 (.int .i64 3))
 clear HS3
 refine (HTX.out _ HSb.out.P).mono ?_
 rintro e w4 ⟨rfl,hP,hT⟩
 have HS4:=Lib.hid (HSb.out.call hP hT)
 clear hP hT HSb
 clear q1 f1 hle hlen hpl
 clear r0 r1 r2 r3 r4 rf0 rf1 rf2 rf3 rf4 rl
 clear rn rm
 obtain ⟨r0,r1,r2,r3,r4,rf0,rf1,rf2,rf3,rf4,rl⟩:=HS4.out.c5 0 rfl
 go_wp2_with fail
 have HSc:=Lib.hid (HS4.out.setL 0 rfl 1 (.string ⟨nt.toArray⟩))
 clear HS4
 refine (HTY.out _ HSc.out.P).mono ?_
 rintro e w5 ⟨rfl,hP,hT⟩
 have HS5:=Lib.hid (HSc.out.call hP hT)
 clear hP hT HSc
 clear r0 r1 r2 r3 r4 rf0 rf1 rf2 rf3 rf4 rl
 obtain ⟨t0,t1,t2,t3,tf0,tf1,tf2,tf3,tl⟩:=HS5.out.c4 1 rfl
 have HS6:=Lib.hid (HS5.out.alloc (ksO 14 [] none 0 0 t.at'))
 clear HS5
 go_wp2_with fail
 refine (HWF.out _ HS6.out.P).mono ?_
 rintro e w7 ⟨rfl,hP,hT⟩
 have HS7:=Lib.hid (HS6.out.call hP hT)
 clear hP hT HS6
 clear t0 t1 t2 t3 tf0 tf1 tf2 tf3 tl
 have hr:=HR.out
 clear HR
 generalize w5.heap.size = bn at *
 generalize w2.heap.size + 1 = bx at *
 generalize w2.heap.size = bt at *
 cases bf with
 | false =>
  simp only [Bool.false_eq_true,↓reduceIte] at hr
  cases hr
  have HM2:=Lib.hid (fun W h=>must_any p v E s7 [59] W h)
  clear HIF HNM
  obtain ⟨c0,c1,c2,c3,c4,-,-,-,-,-,cl⟩:=HS7.out.c5 0 rfl
  have r3:=(HS7.out.c5 1 rfl).c3
  have rf3:=(HS7.out.c5 1 rfl).f3
  have rl:=(HS7.out.c5 1 rfl).lt
  go_wp2_with fail
  clear c0 c1 c2 c3 c4 cl
  clear r3 rf3 rl
  have HSd:=Lib.hid (SW.buildAt [_,_] (HS7.out.addNil.addNil.setL 1 rfl 3 (.slice (some ⟨w7.heap.size,0,none⟩) 2 2)) [.mk 16 ut 0 [] ua,.mk 14 [] 0 [] t.at'] rfl (by simp) w7.heap.size (by simp) #[.int .i64 16,.string ⟨ut.toArray⟩,.float .f64 0,.slice none 0 0,.int .i64 ua,.int .i64 14,.string ⟨#[]⟩,.float .f64 0,.slice none 0 0,.int .i64 t.at'] rfl 2 rfl)
  clear HS7
  refine (HM2.out _ HSd.out.P).mono ?_
  rintro e w9 ⟨⟨uw9,rfl⟩,hP,hT⟩
  have HS9:=Lib.hid (HSd.out.call hP hT)
  clear hP hT HSd
  obtain ⟨r0,r1,r2,r3,r4,rf0,rf1,rf2,rf3,rf4,rl⟩:=HS9.out.c5 1 rfl
  obtain ⟨q0,q1,q2,q3,q4,qf0,qf1,qf2,qf3,qf4,ql⟩:=HS9.out.c5 3 rfl
  go_wp2_with fail
  have HSF:=Lib.hid ((HS9.out.set5 3 rfl (.int .i64 3) (.string ⟨nt.toArray⟩) (.float .f64 0) (.slice (some ⟨w7.heap.size,0,none⟩) 2 2) (.int .i64 t.at')))
  generalize (((((w9.setCell _ _).setCell _ _).setCell _ _).setCell _ _).setCell _ _) = wf at HSF ⊢
  obtain ⟨z0,z1,z2,z3,z4,zf0,zf1,zf2,zf3,zf4,zl⟩:=HSF.out.c5 3 rfl
  refine bodyPost_ret (v:=.agg #[.int .i64 3,.string ⟨nt.toArray⟩,.float .f64 0,.slice (some ⟨w7.heap.size,0,none⟩) 2 2,.int .i64 t.at']) (by simp [results,Tryz.results79,go_sem,z0,z1,z2,z3,z4]) rfl ?_
  exact HSF.out.node (List.mem_cons_self ..) (.mk 3 nt 0 [.mk 16 ut 0 [] ua,.mk 14 [] 0 [] t.at'] t.at') rfl
 | true =>
  simp only [↓reduceIte] at hr
  cases hr
  have hif:=HIF.out rfl
  have HM2:=Lib.hid (fun W h=>must_any p v E s6 [59] W h)
  clear HIF
  have hcs:=HS7.out.P.cells
  have q1:=hcs.c1
  have f1:=hcs.f1
  have hle:=HS7.out.P.le
  have hlen:=HS7.out.P.len
  have hpl:=HS7.out.P.lt
  clear hcs
  go_wp2_with fail
  have HSd:=Lib.hid (HS7.out.inc hif)
  clear HS7
  refine (HNM.out _ HSd.out.P).mono ?_
  rintro e we ⟨rfl,hP,hT⟩
  have HSe:=Lib.hid (HSd.out.call hP hT)
  clear hP hT HSd
  clear q1 f1 hle hlen hpl
  obtain ⟨c0,c1,c2,c3,c4,cf0,cf1,cf2,cf3,cf4,cl⟩:=HSe.out.c5 0 rfl
  have r3:=(HSe.out.c5 1 rfl).c3
  have rf3:=(HSe.out.c5 1 rfl).f3
  have rl:=(HSe.out.c5 1 rfl).lt
  go_upto_region 16 with fail
  have HSf:=Lib.hid ((HSe.out.setL 0 rfl 1 (.string ⟨gt.toArray⟩)).setL 0 rfl 4 (.int .i64 ga))
  generalize ((we.setCell _ _).setCell _ _) = wq at HSf ⊢
  clear HSe
  clear c0 c1 c2 c3 c4 cf0 cf1 cf2 cf3 cf4 cl
  clear r3 rf3 rl
  obtain ⟨c0,c1,c2,c3,c4,-,-,-,-,-,cl⟩:=HSf.out.c5 0 rfl
  have r3:=(HSf.out.c5 1 rfl).c3
  have rf3:=(HSf.out.c5 1 rfl).f3
  have rl:=(HSf.out.c5 1 rfl).lt
  go_wp2_with fail
  clear c0 c1 c2 c3 c4 cl
  clear r3 rf3 rl
  have HSd:=Lib.hid (SW.buildAt [_,_] (HSf.out.addNil.addNil.setL 1 rfl 3 (.slice (some ⟨wq.heap.size,0,none⟩) 2 2)) [.mk 16 ut 0 [] ua,.mk 14 gt 0 [] ga] rfl (by simp) wq.heap.size (by simp) #[.int .i64 16,.string ⟨ut.toArray⟩,.float .f64 0,.slice none 0 0,.int .i64 ua,.int .i64 14,.string ⟨gt.toArray⟩,.float .f64 0,.slice none 0 0,.int .i64 ga] rfl 2 rfl)
  clear HSf
  refine (HM2.out _ HSd.out.P).mono ?_
  rintro e w9 ⟨⟨uw9,rfl⟩,hP,hT⟩
  have HS9:=Lib.hid (HSd.out.call hP hT)
  clear hP hT HSd
  obtain ⟨r0,r1,r2,r3,r4,rf0,rf1,rf2,rf3,rf4,rl⟩:=HS9.out.c5 1 rfl
  obtain ⟨q0,q1,q2,q3,q4,qf0,qf1,qf2,qf3,qf4,ql⟩:=HS9.out.c5 3 rfl
  go_wp2_with fail
  have HSF:=Lib.hid ((HS9.out.set5 3 rfl (.int .i64 3) (.string ⟨nt.toArray⟩) (.float .f64 0) (.slice (some ⟨wq.heap.size,0,none⟩) 2 2) (.int .i64 t.at')))
  generalize (((((w9.setCell _ _).setCell _ _).setCell _ _).setCell _ _).setCell _ _) = wf at HSF ⊢
  obtain ⟨z0,z1,z2,z3,z4,zf0,zf1,zf2,zf3,zf4,zl⟩:=HSF.out.c5 3 rfl
  refine bodyPost_ret (v:=.agg #[.int .i64 3,.string ⟨nt.toArray⟩,.float .f64 0,.slice (some ⟨wq.heap.size,0,none⟩) 2 2,.int .i64 t.at']) (by simp [results,Tryz.results79,go_sem,z0,z1,z2,z3,z4]) rfl ?_
  exact HSF.out.node (List.mem_cons_self ..) (.mk 3 nt 0 [.mk 16 ut 0 [] ua,.mk 14 gt 0 [] ga] t.at') rfl
theorem step_any {p:Nat} {v:Value} {E:PE} {f:Nat} (J:Jobs p v E f) (s:PS) (x:Nd) (s2:PS) (W:World) (hf:16 * ms E s + 8 ≤ f) (hr:stepR E f s = some (x,s2)) (h:PAt W p v E s):Calls Tryz.prog 79 #[PP p] W (NodeR p v E s2 x W):=by
 cases h1:isW E wCopy s with
 | true=>exact step_copy J s x s2 W hf hr h h1
 | false =>
 cases h2:isW E wRun s with
 | true=>exact step_run J s x s2 W hf hr h h1 h2
 | false =>
 cases h3:isW E wWork s with
 | true=>exact step_work J s x s2 W hf hr h h1 h2 h3
 | false =>
 cases h4:isW E wMk s with
 | true=>exact step_mk J s x s2 W hf hr h h1 h2 h3 h4
 | false =>
 cases h5:isW E wRem s with
 | true=>exact step_rem J s x s2 W hf hr h h1 h2 h3 h4 h5
 | false=>exact step_no J s x s2 W hf hr h h1 h2 h3 h4 h5
theorem field_tok0 (w:World) (a b c d:Value):(Instr.field 98 (.agg #[a,b,c,d]) 0).run Tryz.prog w = .ok a w:=by kernel_rfl
theorem field_tok3 (w:World) (a b c d:Value):(Instr.field 98 (.agg #[a,b,c,d]) 3).run Tryz.prog w = .ok d w:=by kernel_rfl
attribute [local go_sem] field_tok0 field_tok3
theorem t_fix (p:Nat) (v:Value) (E:PE) (s s2:PS) (w:World) (h:PAt w p v E s2) (hs:s2 = sT E s) :
  Calls Tryz.prog 52 #[PP p] w fun e w'=>e = .returned (.agg #[.int .i64 (tk E s).kind,.string ⟨(tk E s).text.toArray⟩,.float .f64 (tk E s).num,.int .i64 (tk E s).at']) ∧ PAt w' p v E s2 ∧ Turned [p] w w':=by
 have:=t_any p v E s2 w h
 rw [show sT E s2 = s2 by rw [hs,sT_sT],show tk E s2 = tk E s by rw [hs,tk_sT]] at this
 exact this
def StI (W:World) (p:Nat) (v:Value) (E:PE) (bx:Nat) (g:List UInt8) (at':Int) (L:List (Nat × Obj)) (f:Nat) (kf:List Nd) (sf:PS) (k:Nat) (wr:World):Prop:=
 ∃ (ks:List Nd) (s3:PS) (a:Option Addr) (n:Nat) (S:List Nat),SW W wr p v E s3 ((bx,ksO 2 g a ks.length n at') :: L) [⟨ks,.slice a ks.length n,S⟩] ∧
  stepsR E f k ks s3 = some (kf,sf) ∧ 16 * ms E s3 + 8 ≤ f ∧ ks.length + ms E s3 ≤ 200003
set_option maxHeartbeats 4000000 in
theorem stage_any {p:Nat} {v:Value} {E:PE} {f n:Nat} (J:Jobs p v E f) (s:PS) (x:Nd) (s2:PS) (W:World) (hf:16 * ms E s + 8 ≤ f) (hn:ms E s < n) (hr:stageR E f n s = some (x,s2)) (h:PAt W p v E s) :
  Calls Tryz.prog 53 #[PP p] W (NodeR p v E s2 x W):=by
 have HS:=Lib.hid (SW.start h)
 have HTA:=Lib.hid (fun W h=>t_any p v E s W h)
 have hle:=ms_le (s:=s) h.len
 clear h
 rw [stageR] at hr
 cases h1:isW E wFrom s with
 | false =>
  have HW1:=Lib.hid (fun W h=>word_fix p v E s _ wFrom _ W h rfl h1)
  rw [if_neg (by rw [h1];exact Bool.false_ne_true)] at hr
  cases hr
  have HWR:=Lib.hid (fun W h=>wrong_any p v E (sT E s) W h)
  clear J hf hn h1
  generalize wrong E (sT E s) = s9 at *
  generalize sT E s = s1 at *
  generalize tk E s = t at *
  go_enter Tryz.func53,Tryz.ntmps53
  go_wp2_with fail
  have HS0:=Lib.hid (HS.out.alloc (ndO zero (.slice none 0 0)))
  clear HS
  refine (HTA.out _ HS0.out.P).mono ?_
  rintro e w2 ⟨rfl,hP,hT⟩
  have HS1:=Lib.hid (HS0.out.call hP hT)
  clear hP hT HS0
  have HS2:=Lib.hid ((HS1.out.alloc (tnO t)).allocAt (ksO 2 [] none 0 0 t.at') (w2.heap.size + 1) (by simp))
  clear HS1 HTA
  go_wp2_with fail
  refine (HW1.out _ HS2.out.P).mono ?_
  rintro e w3 ⟨rfl,hP,hT⟩
  have HS3:=Lib.hid (HS2.out.call hP hT)
  clear hP hT HS2
  go_wp2_with fail
  refine (HWR.out _ HS3.out.P).mono ?_
  rintro e w7 ⟨⟨uw7,rfl⟩,hP,hT⟩
  have HS7:=Lib.hid (HS3.out.call hP hT)
  clear hP hT HS3
  obtain ⟨r0,r1,r2,r3,r4,rf0,rf1,rf2,rf3,rf4,rl⟩:=HS7.out.c5 0 rfl
  obtain ⟨q0,q1,q2,q3,q4,qf0,qf1,qf2,qf3,qf4,ql⟩:=HS7.out.c5 2 rfl
  go_wp2_with fail
  have HSF:=Lib.hid ((HS7.out.set5 2 rfl (.int .i64 2) (.string ⟨#[]⟩) (.float .f64 0) (.slice none 0 0) (.int .i64 t.at')))
  generalize (((((w7.setCell _ _).setCell _ _).setCell _ _).setCell _ _).setCell _ _) = wf at HSF ⊢
  obtain ⟨z0,z1,z2,z3,z4,zf0,zf1,zf2,zf3,zf4,zl⟩:=HSF.out.c5 2 rfl
  refine bodyPost_ret (v:=.agg #[.int .i64 2,.string ⟨#[]⟩,.float .f64 0,.slice none 0 0,.int .i64 t.at']) (by simp [results,Tryz.results53,go_sem,z0,z1,z2,z3,z4]) rfl ?_
  exact HSF.out.leaf (.mk 2 [] 0 [] t.at') rfl
 | true =>
  have HW1:=Lib.hid (fun W h=>word_fix p v E s _ wFrom _ W h rfl h1)
  obtain ⟨hi,hmi⟩:=isW_inc h1
  rw [if_pos h1] at hr
  have hm1:=ms_pText E (inc (sT E s))
  have HTX:=Lib.hid (fun W h=>text_any p v E (inc (sT E s)) W h)
  generalize pText E (inc (sT E s)) = tx1 at *
  obtain ⟨⟨nt,na⟩,s4⟩:=tx1
  simp only at HTX hm1 hr
  have HWF:=Lib.hid (fun W h=>word_any p v E s4 wAs _ W h rfl)
  have hif:isW E wAs s4 = true → (sT E s4).i < E.ts.length:=fun h=>(isW_inc h).1
  have hm2:=ms_named E wAs (tk E s).at' s4
  have HND:Hid (named E wAs (tk E s).at' s4 = if isW E wAs s4 then (.mk 14 (pName E (inc (sT E s4))).1.1 0 [] (pName E (inc (sT E s4))).1.2,(pName E (inc (sT E s4))).2) else (.mk 14 [] 0 [] (tk E s).at',sT E s4)):=rfl
  have HNM:=Lib.hid (fun W h=>name_any p v E (inc (sT E s4)) W h)
  generalize pName E (inc (sT E s4)) = nmx at *
  obtain ⟨⟨gt,ga⟩,s6⟩:=nmx
  simp only at HNM HND
  generalize named E wAs (tk E s).at' s4 = ndx at *
  obtain ⟨nd,s5⟩:=ndx
  simp only at hm2 hr
  have hm3:=ms_must E [59] s5
  have HMU:=Lib.hid (fun W h=>must_any p v E s5 [59] W h)
  generalize must E [59] s5 = sB at *
  have HIF:=Lib.hid hif
  cases hst:stepsR E f n [nd] sB with
  | none=>rw [hst] at hr;simp at hr
  | some r =>
   obtain ⟨kf,sf⟩:=r
   rw [hst] at hr
   cases hr
   have HB0:Hid (stepsR E f n [nd] sB = some (kf,s2) ∧ 16 * ms E sB + 8 ≤ f ∧ 1 + ms E sB ≤ 200003):=⟨hst,by omega,by omega⟩
   have HJ:=Lib.hid J
   clear J hf hn h1 hmi hm1 hm2 hm3 hle hif hst
   generalize isW E wAs s4 = bf at *
   generalize sT E s4 = s7 at *
   generalize sT E s = s1 at *
   generalize tk E s = t at *
   go_enter Tryz.func53,Tryz.ntmps53
   go_wp2_with fail
   have HS0:=Lib.hid (HS.out.alloc (ndO zero (.slice none 0 0)))
   clear HS
   refine (HTA.out _ HS0.out.P).mono ?_
   rintro e w2 ⟨rfl,hP,hT⟩
   have HS1:=Lib.hid (HS0.out.call hP hT)
   clear hP hT HS0
   have HS2:=Lib.hid ((HS1.out.alloc (tnO t)).allocAt (ksO 2 [] none 0 0 t.at') (w2.heap.size + 1) (by simp))
   clear HS1 HTA
   go_wp2_with fail
   refine (HW1.out _ HS2.out.P).mono ?_
   rintro e w3 ⟨rfl,hP,hT⟩
   have HS3:=Lib.hid (HS2.out.call hP hT)
   clear hP hT HS2
   have hcs:=HS3.out.P.cells
   have q1:=hcs.c1
   have f1:=hcs.f1
   have hle:=HS3.out.P.le
   have hlen:=HS3.out.P.len
   have hpl:=HS3.out.P.lt
   clear hcs
   obtain ⟨r0,r1,r2,r3,r4,rf0,rf1,rf2,rf3,rf4,rl⟩:=HS3.out.c5 0 rfl
   obtain ⟨rn,rm⟩:=HS3.out.ne 0 rfl
   go_wp2_with fail
   have HSb:=Lib.hid (HS3.out.inc hi)
   clear HS3
   refine (HTX.out _ HSb.out.P).mono ?_
   rintro e w4 ⟨rfl,hP,hT⟩
   have HS4:=Lib.hid (HSb.out.call hP hT)
   clear hP hT HSb
   clear q1 f1 hle hlen hpl
   clear r0 r1 r2 r3 r4 rf0 rf1 rf2 rf3 rf4 rl
   clear rn rm
   obtain ⟨r0,r1,r2,r3,r4,rf0,rf1,rf2,rf3,rf4,rl⟩:=HS4.out.c5 0 rfl
   obtain ⟨t0,t1,t2,t3,tf0,tf1,tf2,tf3,tl⟩:=HS4.out.c4 1 rfl
   go_wp2_with fail
   have HSc:=Lib.hid ((HS4.out.setL 0 rfl 1 (.string ⟨nt.toArray⟩)).allocAt (ksO 14 [] none 0 0 t.at') w4.heap.size (by simp))
   clear HS4
   refine (HWF.out _ HSc.out.P).mono ?_
   rintro e w7 ⟨rfl,hP,hT⟩
   have HS7:=Lib.hid (HSc.out.call hP hT)
   clear hP hT HSc
   clear r0 r1 r2 r3 r4 rf0 rf1 rf2 rf3 rf4 rl
   clear t0 t1 t2 t3 tf0 tf1 tf2 tf3 tl
   generalize w4.heap.size = bn at *
   generalize w2.heap.size + 1 = bx at *
   generalize w2.heap.size = bt at *
   go_upto_if 39 with fail
   go_cut [8,9] from 40 to 55 (fun s8 s9 wx=>∃ (g:List UInt8) (a:Int),Hid (nd = .mk 14 g 0 [] a) ∧ Hid (SW W wx p v E s5 [(bn,ksO 14 g none 0 0 a),(bx,ksO 2 nt none 0 0 t.at'),(bt,tnO t),(W.heap.size,ndO zero (.slice none 0 0))] []))
   case first =>
    cases bf with
    | false =>
     have hnd:=HND.out
     simp only [Bool.false_eq_true,↓reduceIte,Prod.mk.injEq] at hnd
     obtain ⟨e1,e2⟩:=hnd
     clear HND HB0
     subst e1 e2
     go_wp2_with fail
     go_meet
     exact ⟨_,_,rfl,HS7.out⟩
    | true =>
     have hnd:=HND.out
     simp only [↓reduceIte,Prod.mk.injEq] at hnd
     obtain ⟨e1,e2⟩:=hnd
     clear HND HB0
     subst e1 e2
     have hif:=HIF.out rfl
     have hcs:=HS7.out.P.cells
     have q1:=hcs.c1
     have f1:=hcs.f1
     have hle:=HS7.out.P.le
     have hlen:=HS7.out.P.len
     have hpl:=HS7.out.P.lt
     clear hcs
     go_wp2_with fail
     have HSd:=Lib.hid (HS7.out.inc hif)
     clear HS7
     refine (HNM.out _ HSd.out.P).mono ?_
     rintro e we ⟨rfl,hP,hT⟩
     have HSe:=Lib.hid (HSd.out.call hP hT)
     clear hP hT HSd
     clear q1 f1 hle hlen hpl
     obtain ⟨c0,c1,c2,c3,c4,cf0,cf1,cf2,cf3,cf4,cl⟩:=HSe.out.c5 0 rfl
     go_wp2_with fail
     go_meet
     exact ⟨gt,ga,rfl,(HSe.out.setL 0 rfl 1 (.string ⟨gt.toArray⟩)).setL 0 rfl 4 (.int .i64 ga)⟩
   case rest =>
    obtain ⟨g,a,HND2,HS8⟩:=hcut
    have e:=HND2.out
    subst e
    clear HND2 HND HIF HNM HS7
    go_wp2_with fail
    refine (HMU.out _ HS8.out.P).mono ?_
    rintro e w9 ⟨⟨uw9,rfl⟩,hP,hT⟩
    have HS9:=Lib.hid (HS8.out.call hP hT)
    clear hP hT HS8
    obtain ⟨c0,c1,c2,c3,c4,-,-,-,-,-,cl⟩:=HS9.out.c5 0 rfl
    have r3:=(HS9.out.c5 1 rfl).c3
    have rf3:=(HS9.out.c5 1 rfl).f3
    have rl:=(HS9.out.c5 1 rfl).lt
    go_wp2_with fail
    have HSd:=Lib.hid ((SW.buildAt [_] (HS9.out.addNil.setL 1 rfl 3 (.slice (some ⟨w9.heap.size,0,none⟩) 1 1)) [.mk 14 g 0 [] a] rfl (by simp) w9.heap.size (by simp) #[.int .i64 14,.string ⟨g.toArray⟩,.float .f64 0,.slice none 0 0,.int .i64 a] rfl 1 rfl).drop _ ((List.Sublist.refl _).cons _))
    change Code.wp _ _ _ _ (World.alloc (w9.setCell _ _) (.cells #[.int .i64 14,.string ⟨g.toArray⟩,.float .f64 0,.slice none 0 0,.int .i64 a] _ _))
    generalize hwi:(World.alloc (w9.setCell _ _) _) = wi at HSd ⊢
    clear hwi
    clear c0 c1 c2 c3 c4 cl
    clear r3 rf3 rl HS9
    have HI0:Hid (StI W p v E bx nt t.at' [(bt,tnO t),(W.heap.size,ndO zero (.slice none 0 0))] f kf s2 n wi):=
     ⟨[.mk 14 g 0 [] a],sB,_,1,_,HSd.out,HB0.out.1,HB0.out.2.1,HB0.out.2.2⟩
    clear HSd HB0
    generalize w9.heap.size = br at *
    go_loopg [] n (fun k wr=>StI W p v E bx nt t.at' [(bt,tnO t),(W.heap.size,ndO zero (.slice none 0 0))] f kf s2 k wr)
    case atStart=>exact HI0.out
    case round =>
     obtain ⟨qs,s8,a4,n4,S4,hsw,hr,hm,hlen⟩:=hrel
     have HS6:=Lib.hid hsw
     clear hsw HI0
     cases gk with
     | zero=>rw [stepsR] at hr;cases hr
     | succ k' =>
     rw [stepsR] at hr
     have hcs:=HS6.out.P.cells
     have q4:=hcs.c4
     clear hcs
     by_cases hc:s8.code = 0
     ·rw [if_neg (by simp [hc])] at hr
      rw [hc] at q4
      have HWF:=Lib.hid (fun W h=>word_any p v E s8 wFrom _ W h rfl)
      have HTA:=Lib.hid (fun W h=>t_fix p v E s8 _ W h rfl)
      have hkd:(tk E s8).kind ≠ 0 → (sT E s8).code = 0 ∧ ms E (sT E s8) = ms E s8:=fun h=>by rw [(tk_kind h).2.2];exact ⟨hc,rfl⟩
      have HR:=Lib.hid hr
      have HKD:=Lib.hid hkd
      clear hr hkd hc
      have HM:Hid (16 * ms E s8 + 8 ≤ f ∧ qs.length + ms E s8 ≤ 200003):=⟨hm,hlen⟩
      clear hm hlen
      generalize isW E wFrom s8 = bw at *
      generalize sT E s8 = s9 at *
      generalize tk E s8 = u at *
      obtain ⟨wo,rfl⟩:∃ wo:World,wo = wr:=⟨_,rfl⟩
      go_wp2_with fail
      refine (HWF.out _ HS6.out.P).mono ?_
      rintro e w10 ⟨rfl,hP,hT⟩
      have HS9:=Lib.hid (HS6.out.call hP hT)
      clear hP hT HS6
      clear q4
      have hr:=HR.out
      clear HR
      cases bw with
      | true =>
       simp only [Bool.true_or,↓reduceIte] at hr
       cases hr
       clear HM HKD HTA HJ
       go_upto_region 19 with fail
       obtain ⟨r0,r1,r2,r3,r4,rf0,rf1,rf2,rf3,rf4,rl⟩:=HS9.out.c5 0 rfl
       obtain ⟨q0,q1,q2,q3,q4,qf0,qf1,qf2,qf3,qf4,ql⟩:=HS9.out.c5 2 rfl
       go_wp2_with fail
       have HSF:=Lib.hid ((HS9.out.set5 2 rfl (.int .i64 2) (.string ⟨nt.toArray⟩) (.float .f64 0) (.slice a4 kf.length n4) (.int .i64 t.at')))
       generalize (((((w10.setCell _ _).setCell _ _).setCell _ _).setCell _ _).setCell _ _) = wf at HSF ⊢
       obtain ⟨z0,z1,z2,z3,z4,zf0,zf1,zf2,zf3,zf4,zl⟩:=HSF.out.c5 2 rfl
       refine bodyPost_ret (v:=.agg #[.int .i64 2,.string ⟨nt.toArray⟩,.float .f64 0,.slice a4 kf.length n4,.int .i64 t.at']) (by simp [results,Tryz.results53,go_sem,z0,z1,z2,z3,z4]) rfl ?_
       exact HSF.out.node (List.mem_cons_self ..) (.mk 2 nt 0 kf t.at') rfl
      | false =>
       rw [Bool.false_or] at hr
       go_wp2_with fail
       refine (HTA.out _ HS9.out.P).mono ?_
       rintro e w11 ⟨rfl,hP,hT⟩
       have HS10:=Lib.hid (HS9.out.call hP hT)
       clear hP hT HS9
       obtain ⟨ukd,uu,un,ua⟩:=u
       simp only at hr HKD ⊢
       by_cases hk0:ukd = 0
       ·subst hk0
        rw [if_pos (by decide)] at hr
        cases hr
        clear HM HKD HJ
        go_upto_region 19 with fail
        obtain ⟨r0,r1,r2,r3,r4,rf0,rf1,rf2,rf3,rf4,rl⟩:=HS10.out.c5 0 rfl
        obtain ⟨q0,q1,q2,q3,q4,qf0,qf1,qf2,qf3,qf4,ql⟩:=HS10.out.c5 2 rfl
        go_wp2_with fail
        have HSF:=Lib.hid ((HS10.out.set5 2 rfl (.int .i64 2) (.string ⟨nt.toArray⟩) (.float .f64 0) (.slice a4 kf.length n4) (.int .i64 t.at')))
        generalize (((((w11.setCell _ _).setCell _ _).setCell _ _).setCell _ _).setCell _ _) = wf at HSF ⊢
        obtain ⟨z0,z1,z2,z3,z4,zf0,zf1,zf2,zf3,zf4,zl⟩:=HSF.out.c5 2 rfl
        refine bodyPost_ret (v:=.agg #[.int .i64 2,.string ⟨nt.toArray⟩,.float .f64 0,.slice a4 kf.length n4,.int .i64 t.at']) (by simp [results,Tryz.results53,go_sem,z0,z1,z2,z3,z4]) rfl ?_
        exact HSF.out.node (List.mem_cons_self ..) (.mk 2 nt 0 kf t.at') rfl
       ·have hkb:(ukd == 0) = false:=beq_eq_false_iff_ne.2 hk0
        have hkn:(ukd != 0) = true:=by simp [bne,hkb]
        rw [if_neg (by rw [hkb];exact Bool.false_ne_true)] at hr
        obtain ⟨h9c,h9m⟩:=HKD.out hk0
        have hm:=HM.out
        obtain ⟨y,s5',h1,h2,-⟩:=step_ends E f s9 (by omega) h9c
        rw [h1] at hr
        have HJ2:=Lib.hid (fun W h=>step_any HJ.out s9 y s5' W (by omega) h1 h)
        have HN:Hid (stepsR E f k' (qs ++ [y]) s5' = some (kf,s2) ∧ 16 * ms E s5' + 8 ≤ f ∧ (qs ++ [y]).length + ms E s5' ≤ 200003 ∧ qs.length ≤ 1000000):=⟨hr,by omega,by simp;omega,by omega⟩
        clear hr h1 h2 h9c h9m hm HM HKD hk0
        go_wp2_with fail
        obtain ⟨r0,r1,r2,r3,r4,rf0,rf1,rf2,rf3,rf4,rl⟩:=HS10.out.c5 0 rfl
        go_region_law
         (first
          | (obtain ⟨a2,n2,w13,S2,hrun,hsw⟩:=((HS12.out.alloc (ndO y (.slice a12 y.kids.length n12))).drop _ ((List.Sublist.refl _).cons _)).appendS y rfl w12.heap.size (blk_new _ _) HN.out.2.2.2
             have HRUN:=Lib.hid hrun
             have HS13:=Lib.hid hsw
             clear hrun hsw
             obtain ⟨r0,r1,r2,r3,r4,rf0,rf1,rf2,rf3,rf4,rl⟩:=HS13.out.c5 0 rfl
             refine step_append_run (by rfl) (by rfl) (by rfl) (by rfl) (by rfl) HRUN.out ?_)
          | (go_simp
             go_at_call 79
             refine (HJ2.out _ (by first | exact HS10.out.P | exact HS10.out.drew.P)).mono ?_
             rintro e w12 ⟨a12,n12,S12,rfl,hk,hS,hP,hT⟩
             have HS12:=Lib.hid (HS10.out.drew.callT hk hS hP hT)
             clear hk hS hP hT
             obtain ⟨r0,r1,r2,r3,r4,rf0,rf1,rf2,rf3,rf4,rl⟩:=HS12.out.c5 0 rfl))
        all_goals
         have HB:Hid (StI W p v E bx nt t.at' [(bt,tnO t),(W.heap.size,ndO zero (.slice none 0 0))] f kf s2 k' (w13.setCell ⟨bx,3,none⟩ (.slice a2 (qs.length + 1) n2))):=⟨qs ++ [y],s5',a2,n2,S2,by
          have:=HS13.out.setL 0 rfl 3 (.slice a2 (qs ++ [y]).length n2)
          rw [List.length_append] at this ⊢
          exact this,HN.out.1,HN.out.2.1,HN.out.2.2.1⟩
         clear HS13 HRUN HN HS10 HJ2
         go_wp2_with fail
         go_roundg k'
         case rel=>exact HB.out
         case measure=>omega
     ·have hcb:(s8.code == 0) = false:=beq_eq_false_iff_ne.2 hc
      rw [if_pos hc] at hr
      cases hr
      clear hc HJ hm hlen
      go_upto_region 19 with fail
      clear q4
      obtain ⟨r0,r1,r2,r3,r4,rf0,rf1,rf2,rf3,rf4,rl⟩:=HS6.out.c5 0 rfl
      obtain ⟨q0,q1,q2,q3,q4,qf0,qf1,qf2,qf3,qf4,ql⟩:=HS6.out.c5 2 rfl
      go_wp2_with fail
      have HSF:=Lib.hid ((HS6.out.set5 2 rfl (.int .i64 2) (.string ⟨nt.toArray⟩) (.float .f64 0) (.slice a4 kf.length n4) (.int .i64 t.at')))
      generalize (((((wr.setCell _ _).setCell _ _).setCell _ _).setCell _ _).setCell _ _) = wf at HSF ⊢
      obtain ⟨z0,z1,z2,z3,z4,zf0,zf1,zf2,zf3,zf4,zl⟩:=HSF.out.c5 2 rfl
      refine bodyPost_ret (v:=.agg #[.int .i64 2,.string ⟨nt.toArray⟩,.float .f64 0,.slice a4 kf.length n4,.int .i64 t.at']) (by simp [results,Tryz.results53,go_sem,z0,z1,z2,z3,z4]) rfl ?_
      exact HSF.out.node (List.mem_cons_self ..) (.mk 2 nt 0 kf t.at') rfl
end Go.Proofs.YtmfpmandkhiknaaGreatDoor.par
