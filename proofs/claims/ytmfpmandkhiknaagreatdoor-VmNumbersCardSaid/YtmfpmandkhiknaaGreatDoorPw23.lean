/-
  Proved: what stmt of the document's parser returns. Conditions: as each theorem says.
  Proved: what stmt of the document's parser returns: if, while, all. Conditions: as each theorem says.
-/
import Derived.Test.YtmfpmandkhiknaaGreatDoorPw17
set_option linter.unusedVariables false
set_option linter.unusedSimpArgs false
namespace Go.Proofs.YtmfpmandkhiknaaGreatDoor.par
open Go.RowKit
open heap
open lex (Tk TRow TkAt run_store_float add0)
set_option maxRecDepth 100000
attribute [local go_sem] run_store_float
theorem word_fix (p:Nat) (v:Value) (E:PE) (s s2:PS) (g:List UInt8) (b:Bool) (w:World) (h:PAt w p v E s2) (hs:s2 = sT E s) (hb:isW E g s = b) :
  Calls Tryz.prog 74 #[PP p,.string ⟨g.toArray⟩] w fun e w'=>e = .returned (.bool b) ∧ PAt w' p v E s2 ∧ Turned [p] w w':=by
 have:=word_any p v E s2 g b w h (by rw [hs,isW_sT];exact hb)
 rw [show sT E s2 = s2 by rw [hs,sT_sT]] at this
 exact this
theorem isW_inc {E:PE} {g:List UInt8} {s:PS} (h:isW E g s = true):(sT E s).i < E.ts.length ∧ ms E (inc (sT E s)) < ms E s:=by
 have h:=isW_kind h
 exact ⟨by rw [sT_i];exact (tk_kind (by rw [h.1];decide)).2.1,ms_inc (by rw [h.1];decide)⟩
abbrev wSet:List UInt8 := [115,101,116]
abbrev wIf:List UInt8 := [105,102]
abbrev wElse:List UInt8 := [101,108,115,101]
abbrev wWhile:List UInt8 := [119,104,105,108,101]
abbrev wDo:List UInt8 := [100,111]
abbrev wFail:List UInt8 := [102,97,105,108]
set_option maxHeartbeats 4000000 in
theorem stmt_set {p:Nat} {v:Value} {E:PE} {f:Nat} (J:Jobs p v E f) (s:PS) (x:Nd) (s2:PS) (W:World) (hf:16 * ms E s + 2 ≤ f + 1) (hr:run E (f + 1) .stmt s = some ([x],s2)) (h:PAt W p v E s) (h1:isW E wSet s = true) :
  Calls Tryz.prog 57 #[PP p] W (NodeR p v E s2 x W):=by
 have HS:=Lib.hid (SW.start h)
 have HTA:=Lib.hid (fun W h=>t_any p v E s W h)
 have HW1:=Lib.hid (fun W h=>word_fix p v E s _ wSet _ W h rfl h1)
 obtain ⟨hi,hmi⟩:=isW_inc h1
 rw [run,if_pos h1] at hr
 have HNM:=Lib.hid (fun W h=>name_any p v E (inc (sT E s)) W h)
 have hm1:=ms_pName E (inc (sT E s))
 have HM1:=Lib.hid (fun W h=>must_any p v E (pName E (inc (sT E s))).2 [61] W h)
 have hm2:=ms_must E [61] (pName E (inc (sT E s))).2
 obtain ⟨y,s4,h3,h4,-⟩:=(run_ends E f (.bin 0) (must E [61] (pName E (inc (sT E s))).2) (by simp [okJ]) (by simp only [rank];omega)).one rfl
 rw [h3] at hr
 cases hr
 have HJ:=Lib.hid (fun W h=>expr_any J _ y s4 W (by simp only [rank];omega) h3 h)
 have HM2:=Lib.hid (fun W h=>must_any p v E s4 [59] W h)
 clear J hf h h1 hmi hm1 hm2 h3 h4
 generalize must E [59] s4 = s9 at *
 generalize must E [61] (pName E (inc (sT E s))).2 = s6 at *
 generalize pName E (inc (sT E s)) = nm at *
 obtain ⟨⟨nt,na⟩,s5⟩:=nm
 simp only at HNM HM1 ⊢
 generalize sT E s = s1 at *
 generalize tk E s = t at *
 go_enter Tryz.func57,Tryz.ntmps57
 go_wp2_with fail
 have HS0:=Lib.hid (HS.out.alloc (ndO zero (.slice none 0 0)))
 clear HS
 refine (HTA.out _ HS0.out.P).mono ?_
 rintro e w2 ⟨rfl,hP,hT⟩
 have HS1:=Lib.hid (HS0.out.call hP hT)
 clear hP hT HS0
 have HS2:=Lib.hid ((HS1.out.alloc (tnO t)).allocAt (ksO 0 [] none 0 0 t.at') (w2.heap.size + 1) (by simp))
 clear HS1 HTA
 go_wp2_with fail
 refine (HW1.out _ HS2.out.P).mono ?_
 rintro e w3 ⟨rfl,hP,hT⟩
 have HS3:=Lib.hid (HS2.out.call hP hT)
 clear hP hT HS2
 have hcs:=HS3.out.P.cells
 have q1:=hcs.c1
 have f1:=hcs.f1
 have hle:=HS3.out.P.le
 have hlen:=HS3.out.P.len
 have hpl:=HS3.out.P.lt
 clear hcs
 obtain ⟨r0,r1,r2,r3,r4,rf0,rf1,rf2,rf3,rf4,rl⟩:=HS3.out.c5 0 rfl
 obtain ⟨rn,rm⟩:=HS3.out.ne 0 rfl
 go_wp2_with fail
 have HSb:=Lib.hid ((HS3.out.inc hi).setL 0 rfl 0 (.int .i64 9))
 clear HS3
 refine (HNM.out _ HSb.out.P).mono ?_
 rintro e w4 ⟨rfl,hP,hT⟩
 have HS4:=Lib.hid (HSb.out.call hP hT)
 clear hP hT HSb
 clear q1 f1 hle hlen hpl
 clear r0 r1 r2 r3 r4 rf0 rf1 rf2 rf3 rf4 rl
 clear rn rm
 obtain ⟨r0,r1,r2,r3,r4,rf0,rf1,rf2,rf3,rf4,rl⟩:=HS4.out.c5 0 rfl
 go_wp2_with fail
 have HSc:=Lib.hid (HS4.out.setL 0 rfl 1 (.string ⟨nt.toArray⟩))
 clear HS4
 refine (HM1.out _ HSc.out.P).mono ?_
 rintro e w5 ⟨⟨uw5,rfl⟩,hP,hT⟩
 have HS5:=Lib.hid (HSc.out.call hP hT)
 clear hP hT HSc
 clear r0 r1 r2 r3 r4 rf0 rf1 rf2 rf3 rf4 rl
 go_wp2_with fail
 refine (HJ.out _ HS5.out.P).mono ?_
 rintro e w6 ⟨aw6,nw6,Sw6,rfl,hk,hS,hP,hT⟩
 have HS6:=Lib.hid (HS5.out.callT hk hS hP hT)
 clear hk hS hP hT
 obtain ⟨r0,r1,r2,r3,r4,rf0,rf1,rf2,rf3,rf4,rl⟩:=HS6.out.c5 0 rfl
 go_wp2_with fail
 have HSd:=Lib.hid (SW.buildAt [_] (HS6.out.setL 0 rfl 3 (.slice (some ⟨w6.heap.size,0,none⟩) 1 1)) [y] rfl (by simp) w6.heap.size (by simp) #[.int .i64 y.kind,.string ⟨y.text.toArray⟩,.float .f64 y.num,.slice aw6 y.kids.length nw6,.int .i64 y.at'] rfl 1 rfl)
 clear HS6 HS5
 refine (HM2.out _ HSd.out.P).mono ?_
 rintro e w7 ⟨⟨uw7,rfl⟩,hP,hT⟩
 have HS7:=Lib.hid (HSd.out.call hP hT)
 clear hP hT HSd
 clear r0 r1 r2 r3 r4 rf0 rf1 rf2 rf3 rf4 rl
 obtain ⟨r0,r1,r2,r3,r4,rf0,rf1,rf2,rf3,rf4,rl⟩:=HS7.out.c5 0 rfl
 obtain ⟨q0,q1,q2,q3,q4,qf0,qf1,qf2,qf3,qf4,ql⟩:=HS7.out.c5 2 rfl
 go_wp2_with fail
 have HSF:=Lib.hid ((HS7.out.set5 2 rfl (.int .i64 9) (.string ⟨nt.toArray⟩) (.float .f64 0) (.slice (some ⟨w6.heap.size,0,none⟩) 1 1) (.int .i64 t.at')))
 generalize (((((w7.setCell _ _).setCell _ _).setCell _ _).setCell _ _).setCell _ _) = wf at HSF ⊢
 obtain ⟨z0,z1,z2,z3,z4,zf0,zf1,zf2,zf3,zf4,zl⟩:=HSF.out.c5 2 rfl
 refine bodyPost_ret (v:=.agg #[.int .i64 9,.string ⟨nt.toArray⟩,.float .f64 0,.slice (some ⟨w6.heap.size,0,none⟩) 1 1,.int .i64 t.at']) (by simp [results,Tryz.results57,go_sem,z0,z1,z2,z3,z4]) rfl ?_
 exact HSF.out.node (List.mem_cons_self ..) (.mk 9 nt 0 [y] t.at') rfl
theorem SW.addNil {w W:World} {p:Nat} {v:Value} {E:PE} {s:PS} {L:List (Nat × Obj)} {K:List Tr} (h:SW w W p v E s L K):SW w W p v E s L (⟨[],.slice none 0 0,[]⟩ :: K):=
 ⟨h.P,h.T,h.plt,h.own,h.loc,fun k hk=>by
  rcases List.mem_cons.1 hk with rfl | hk
  ·exact ⟨Tr.nil _,by simp⟩
  ·exact h.trees k hk,h.ndl,fun l hl k hk=>by
  rcases List.mem_cons.1 hk with rfl | hk
  ·simp
  ·exact h.dis l hl k hk,.cons (by simp) h.ndk⟩
set_option maxHeartbeats 4000000 in
theorem stmt_do {p:Nat} {v:Value} {E:PE} {f:Nat} (J:Jobs p v E f) (s:PS) (x:Nd) (s2:PS) (W:World) (hf:16 * ms E s + 2 ≤ f + 1) (hr:run E (f + 1) .stmt s = some ([x],s2)) (h:PAt W p v E s) (h1:isW E wSet s = false) (h2:isW E wIf s = false) (h3:isW E wWhile s = false) (h4:isW E wDo s = true) :
  Calls Tryz.prog 57 #[PP p] W (NodeR p v E s2 x W):=by
 have HS:=Lib.hid (SW.start h)
 have HTA:=Lib.hid (fun W h=>t_any p v E s W h)
 have HW1:=Lib.hid (fun W h=>word_fix p v E s _ wSet _ W h rfl h1)
 have HW2:=Lib.hid (fun W h=>word_fix p v E s _ wIf _ W h rfl h2)
 have HW3:=Lib.hid (fun W h=>word_fix p v E s _ wWhile _ W h rfl h3)
 have HW4:=Lib.hid (fun W h=>word_fix p v E s _ wDo _ W h rfl h4)
 obtain ⟨hi,hmi⟩:=isW_inc h4
 obtain ⟨hk1,hk2⟩:=isW_kind h4
 rw [run,if_neg (by rw [h1];exact Bool.false_ne_true),if_neg (by rw [h2];exact Bool.false_ne_true),if_neg (by rw [h3];exact Bool.false_ne_true),if_pos (by simp [h4])] at hr
 obtain ⟨y,s4,h6,h7,-⟩:=(run_ends E f (.bin 0) (inc (sT E s)) (by simp [okJ]) (by simp only [rank];omega)).one rfl
 rw [h6,hk2] at hr
 have hr:some ([Nd.mk 12 [] 0 [y] (tk E s).at'],must E [59] s4) = some ([x],s2):=hr
 cases hr
 have HJ:=Lib.hid (fun W h=>expr_any J _ y s4 W (by simp only [rank];omega) h6 h)
 have HM2:=Lib.hid (fun W h=>must_any p v E s4 [59] W h)
 clear J hf h h1 h2 h3 h4 hmi h6 h7
 generalize must E [59] s4 = s9 at *
 generalize sT E s = s1 at *
 generalize tk E s = t at *
 obtain ⟨kd,u,nm,a⟩:=t
 simp only at hk1 hk2 ⊢
 subst hk1 hk2
 obtain ⟨t,hT⟩:∃ t:Tn,t = ⟨1,wDo,nm,a⟩:=⟨_,rfl⟩
 rw [← hT] at HTA
 have HTT:=Lib.hid hT
 clear hT
 rw [show a = t.at' by rw [HTT.out]]
 go_enter Tryz.func57,Tryz.ntmps57
 go_wp2_with fail
 have HS0:=Lib.hid (HS.out.alloc (ndO zero (.slice none 0 0)))
 clear HS
 refine (HTA.out _ HS0.out.P).mono ?_
 rintro e w2 ⟨rfl,hP,hT⟩
 have HS1:=Lib.hid (HS0.out.call hP hT)
 clear hP hT HS0
 have HS2:=Lib.hid ((HS1.out.alloc (tnO t)).allocAt (ksO 0 [] none 0 0 t.at') (w2.heap.size + 1) (by simp))
 clear HS1 HTA
 go_wp2_with fail
 refine (HW1.out _ HS2.out.P).mono ?_
 rintro e w3 ⟨rfl,hP,hT⟩
 have HS3:=Lib.hid (HS2.out.call hP hT)
 clear hP hT HS2
 go_wp2_with fail
 refine (HW2.out _ HS3.out.P).mono ?_
 rintro e wa ⟨rfl,hP,hT⟩
 have HSa:=Lib.hid (HS3.out.call hP hT)
 clear hP hT HS3
 go_wp2_with fail
 refine (HW3.out _ HSa.out.P).mono ?_
 rintro e wb ⟨rfl,hP,hT⟩
 have HSb:=Lib.hid (HSa.out.call hP hT)
 clear hP hT HSa
 go_wp2_with fail
 refine (HW4.out _ HSb.out.P).mono ?_
 rintro e wc ⟨rfl,hP,hT⟩
 have HSc:=Lib.hid (HSb.out.call hP hT)
 clear hP hT HSb
 have HSe:=HSc
 clear HSc
 have hcs:=HSe.out.P.cells
 have q1:=hcs.c1
 have f1:=hcs.f1
 have hle:=HSe.out.P.le
 have hlen:=HSe.out.P.len
 have hpl:=HSe.out.P.lt
 clear hcs
 obtain ⟨r0,r1,r2,r3,r4,rf0,rf1,rf2,rf3,rf4,rl⟩:=HSe.out.c5 0 rfl
 obtain ⟨rn,rm⟩:=HSe.out.ne 0 rfl
 obtain ⟨t0,t1,t2,t3,tf0,tf1,tf2,tf3,tl⟩:=HSe.out.c4 1 rfl
 obtain ⟨tn,tm⟩:=HSe.out.ne 1 rfl
 have ht1:t.text = wDo:=by rw [HTT.out]
 rw [ht1] at t1
 clear ht1
 go_wp2_with fail
 have HS5:=Lib.hid ((HSe.out.inc hi).setL 0 rfl 0 (.int .i64 12))
 clear HSe
 refine (HJ.out _ HS5.out.P).mono ?_
 rintro e w6 ⟨aw6,nw6,Sw6,rfl,hk,hS,hP,hT⟩
 have HS6:=Lib.hid (HS5.out.callT hk hS hP hT)
 clear hk hS hP hT
 clear q1 f1 hle hlen hpl
 clear r0 r1 r2 r3 r4 rf0 rf1 rf2 rf3 rf4 rl
 clear t0 t1 t2 t3 tf0 tf1 tf2 tf3 tl
 clear rn rm tn tm
 obtain ⟨r0,r1,r2,r3,r4,rf0,rf1,rf2,rf3,rf4,rl⟩:=HS6.out.c5 0 rfl
 go_wp2_with fail
 have HSd:=Lib.hid (SW.buildAt [_] (HS6.out.setL 0 rfl 3 (.slice (some ⟨w6.heap.size,0,none⟩) 1 1)) [y] rfl (by simp) w6.heap.size (by simp) #[.int .i64 y.kind,.string ⟨y.text.toArray⟩,.float .f64 y.num,.slice aw6 y.kids.length nw6,.int .i64 y.at'] rfl 1 rfl)
 clear HS6 HS5
 refine (HM2.out _ HSd.out.P).mono ?_
 rintro e w7 ⟨⟨uw7,rfl⟩,hP,hT⟩
 have HS7:=Lib.hid (HSd.out.call hP hT)
 clear hP hT HSd
 clear r0 r1 r2 r3 r4 rf0 rf1 rf2 rf3 rf4 rl
 obtain ⟨r0,r1,r2,r3,r4,rf0,rf1,rf2,rf3,rf4,rl⟩:=HS7.out.c5 0 rfl
 obtain ⟨q0,q1,q2,q3,q4,qf0,qf1,qf2,qf3,qf4,ql⟩:=HS7.out.c5 2 rfl
 go_wp2_with fail
 have HSF:=Lib.hid ((HS7.out.set5 2 rfl (.int .i64 12) (.string ⟨#[]⟩) (.float .f64 0) (.slice (some ⟨w6.heap.size,0,none⟩) 1 1) (.int .i64 t.at')))
 generalize (((((w7.setCell _ _).setCell _ _).setCell _ _).setCell _ _).setCell _ _) = wf at HSF ⊢
 obtain ⟨z0,z1,z2,z3,z4,zf0,zf1,zf2,zf3,zf4,zl⟩:=HSF.out.c5 2 rfl
 refine bodyPost_ret (v:=.agg #[.int .i64 12,.string ⟨#[]⟩,.float .f64 0,.slice (some ⟨w6.heap.size,0,none⟩) 1 1,.int .i64 t.at']) (by simp [results,Tryz.results57,go_sem,z0,z1,z2,z3,z4]) rfl ?_
 exact HSF.out.node (List.mem_cons_self ..) (.mk 12 [] 0 [y] t.at') rfl
set_option maxHeartbeats 4000000 in
theorem stmt_fail {p:Nat} {v:Value} {E:PE} {f:Nat} (J:Jobs p v E f) (s:PS) (x:Nd) (s2:PS) (W:World) (hf:16 * ms E s + 2 ≤ f + 1) (hr:run E (f + 1) .stmt s = some ([x],s2)) (h:PAt W p v E s) (h1:isW E wSet s = false) (h2:isW E wIf s = false) (h3:isW E wWhile s = false) (h4:isW E wDo s = false) (h5:isW E wFail s = true) :
  Calls Tryz.prog 57 #[PP p] W (NodeR p v E s2 x W):=by
 have HS:=Lib.hid (SW.start h)
 have HTA:=Lib.hid (fun W h=>t_any p v E s W h)
 have HW1:=Lib.hid (fun W h=>word_fix p v E s _ wSet _ W h rfl h1)
 have HW2:=Lib.hid (fun W h=>word_fix p v E s _ wIf _ W h rfl h2)
 have HW3:=Lib.hid (fun W h=>word_fix p v E s _ wWhile _ W h rfl h3)
 have HW4:=Lib.hid (fun W h=>word_fix p v E s _ wDo _ W h rfl h4)
 have HW5:=Lib.hid (fun W h=>word_fix p v E s _ wFail _ W h rfl h5)
 obtain ⟨hi,hmi⟩:=isW_inc h5
 obtain ⟨hk1,hk2⟩:=isW_kind h5
 rw [run,if_neg (by rw [h1];exact Bool.false_ne_true),if_neg (by rw [h2];exact Bool.false_ne_true),if_neg (by rw [h3];exact Bool.false_ne_true),if_pos (by simp [h5])] at hr
 obtain ⟨y,s4,h6,h7,-⟩:=(run_ends E f (.bin 0) (inc (sT E s)) (by simp [okJ]) (by simp only [rank];omega)).one rfl
 rw [h6,hk2] at hr
 have hr:some ([Nd.mk 13 [] 0 [y] (tk E s).at'],must E [59] s4) = some ([x],s2):=hr
 cases hr
 have HJ:=Lib.hid (fun W h=>expr_any J _ y s4 W (by simp only [rank];omega) h6 h)
 have HM2:=Lib.hid (fun W h=>must_any p v E s4 [59] W h)
 clear J hf h h1 h2 h3 h4 h5 hmi h6 h7
 generalize must E [59] s4 = s9 at *
 generalize sT E s = s1 at *
 generalize tk E s = t at *
 obtain ⟨kd,u,nm,a⟩:=t
 simp only at hk1 hk2 ⊢
 subst hk1 hk2
 obtain ⟨t,hT⟩:∃ t:Tn,t = ⟨1,wFail,nm,a⟩:=⟨_,rfl⟩
 rw [← hT] at HTA
 have HTT:=Lib.hid hT
 clear hT
 rw [show a = t.at' by rw [HTT.out]]
 go_enter Tryz.func57,Tryz.ntmps57
 go_wp2_with fail
 have HS0:=Lib.hid (HS.out.alloc (ndO zero (.slice none 0 0)))
 clear HS
 refine (HTA.out _ HS0.out.P).mono ?_
 rintro e w2 ⟨rfl,hP,hT⟩
 have HS1:=Lib.hid (HS0.out.call hP hT)
 clear hP hT HS0
 have HS2:=Lib.hid ((HS1.out.alloc (tnO t)).allocAt (ksO 0 [] none 0 0 t.at') (w2.heap.size + 1) (by simp))
 clear HS1 HTA
 go_wp2_with fail
 refine (HW1.out _ HS2.out.P).mono ?_
 rintro e w3 ⟨rfl,hP,hT⟩
 have HS3:=Lib.hid (HS2.out.call hP hT)
 clear hP hT HS2
 go_wp2_with fail
 refine (HW2.out _ HS3.out.P).mono ?_
 rintro e wa ⟨rfl,hP,hT⟩
 have HSa:=Lib.hid (HS3.out.call hP hT)
 clear hP hT HS3
 go_wp2_with fail
 refine (HW3.out _ HSa.out.P).mono ?_
 rintro e wb ⟨rfl,hP,hT⟩
 have HSb:=Lib.hid (HSa.out.call hP hT)
 clear hP hT HSa
 go_wp2_with fail
 refine (HW4.out _ HSb.out.P).mono ?_
 rintro e wc ⟨rfl,hP,hT⟩
 have HSc:=Lib.hid (HSb.out.call hP hT)
 clear hP hT HSb
 go_wp2_with fail
 refine (HW5.out _ HSc.out.P).mono ?_
 rintro e we ⟨rfl,hP,hT⟩
 have HSe:=Lib.hid (HSc.out.call hP hT)
 clear hP hT HSc
 have hcs:=HSe.out.P.cells
 have q1:=hcs.c1
 have f1:=hcs.f1
 have hle:=HSe.out.P.le
 have hlen:=HSe.out.P.len
 have hpl:=HSe.out.P.lt
 clear hcs
 obtain ⟨r0,r1,r2,r3,r4,rf0,rf1,rf2,rf3,rf4,rl⟩:=HSe.out.c5 0 rfl
 obtain ⟨rn,rm⟩:=HSe.out.ne 0 rfl
 obtain ⟨t0,t1,t2,t3,tf0,tf1,tf2,tf3,tl⟩:=HSe.out.c4 1 rfl
 obtain ⟨tn,tm⟩:=HSe.out.ne 1 rfl
 have ht1:t.text = wFail:=by rw [HTT.out]
 rw [ht1] at t1
 clear ht1
 go_wp2_with fail
 have HS5:=Lib.hid (((HSe.out.inc hi).setL 0 rfl 0 (.int .i64 12)).setL 0 rfl 0 (.int .i64 13))
 clear HSe
 refine (HJ.out _ HS5.out.P).mono ?_
 rintro e w6 ⟨aw6,nw6,Sw6,rfl,hk,hS,hP,hT⟩
 have HS6:=Lib.hid (HS5.out.callT hk hS hP hT)
 clear hk hS hP hT
 clear q1 f1 hle hlen hpl
 clear r0 r1 r2 r3 r4 rf0 rf1 rf2 rf3 rf4 rl
 clear t0 t1 t2 t3 tf0 tf1 tf2 tf3 tl
 clear rn rm tn tm
 obtain ⟨r0,r1,r2,r3,r4,rf0,rf1,rf2,rf3,rf4,rl⟩:=HS6.out.c5 0 rfl
 go_wp2_with fail
 have HSd:=Lib.hid (SW.buildAt [_] (HS6.out.setL 0 rfl 3 (.slice (some ⟨w6.heap.size,0,none⟩) 1 1)) [y] rfl (by simp) w6.heap.size (by simp) #[.int .i64 y.kind,.string ⟨y.text.toArray⟩,.float .f64 y.num,.slice aw6 y.kids.length nw6,.int .i64 y.at'] rfl 1 rfl)
 clear HS6 HS5
 refine (HM2.out _ HSd.out.P).mono ?_
 rintro e w7 ⟨⟨uw7,rfl⟩,hP,hT⟩
 have HS7:=Lib.hid (HSd.out.call hP hT)
 clear hP hT HSd
 clear r0 r1 r2 r3 r4 rf0 rf1 rf2 rf3 rf4 rl
 obtain ⟨r0,r1,r2,r3,r4,rf0,rf1,rf2,rf3,rf4,rl⟩:=HS7.out.c5 0 rfl
 obtain ⟨q0,q1,q2,q3,q4,qf0,qf1,qf2,qf3,qf4,ql⟩:=HS7.out.c5 2 rfl
 go_wp2_with fail
 have HSF:=Lib.hid ((HS7.out.set5 2 rfl (.int .i64 13) (.string ⟨#[]⟩) (.float .f64 0) (.slice (some ⟨w6.heap.size,0,none⟩) 1 1) (.int .i64 t.at')))
 generalize (((((w7.setCell _ _).setCell _ _).setCell _ _).setCell _ _).setCell _ _) = wf at HSF ⊢
 obtain ⟨z0,z1,z2,z3,z4,zf0,zf1,zf2,zf3,zf4,zl⟩:=HSF.out.c5 2 rfl
 refine bodyPost_ret (v:=.agg #[.int .i64 13,.string ⟨#[]⟩,.float .f64 0,.slice (some ⟨w6.heap.size,0,none⟩) 1 1,.int .i64 t.at']) (by simp [results,Tryz.results57,go_sem,z0,z1,z2,z3,z4]) rfl ?_
 exact HSF.out.node (List.mem_cons_self ..) (.mk 13 [] 0 [y] t.at') rfl
set_option maxHeartbeats 4000000 in
theorem stmt_no {p:Nat} {v:Value} {E:PE} {f:Nat} (J:Jobs p v E f) (s:PS) (x:Nd) (s2:PS) (W:World) (hf:16 * ms E s + 2 ≤ f + 1) (hr:run E (f + 1) .stmt s = some ([x],s2)) (h:PAt W p v E s) (h1:isW E wSet s = false) (h2:isW E wIf s = false) (h3:isW E wWhile s = false) (h4:isW E wDo s = false) (h5:isW E wFail s = false) :
  Calls Tryz.prog 57 #[PP p] W (NodeR p v E s2 x W):=by
 have HS:=Lib.hid (SW.start h)
 have HTA:=Lib.hid (fun W h=>t_any p v E s W h)
 have HW1:=Lib.hid (fun W h=>word_fix p v E s _ wSet _ W h rfl h1)
 have HW2:=Lib.hid (fun W h=>word_fix p v E s _ wIf _ W h rfl h2)
 have HW3:=Lib.hid (fun W h=>word_fix p v E s _ wWhile _ W h rfl h3)
 have HW4:=Lib.hid (fun W h=>word_fix p v E s _ wDo _ W h rfl h4)
 have HW5:=Lib.hid (fun W h=>word_fix p v E s _ wFail _ W h rfl h5)
 rw [run,if_neg (by rw [h1];exact Bool.false_ne_true),if_neg (by rw [h2];exact Bool.false_ne_true),if_neg (by rw [h3];exact Bool.false_ne_true),if_neg (by simp [h4,h5])] at hr
 cases hr
 have hws:wrong E (sT E s) = wrong E s:=by unfold wrong;rw [sT_sT,tk_sT]
 have HWR:=Lib.hid (fun W h=>wrong_any p v E (sT E s) W h)
 rw [hws] at HWR
 clear J hf h h1 h2 h3 h4 h5 hws
 rw [show wrong E (sT E s) = wrong E s by unfold wrong;rw [sT_sT,tk_sT]]
 generalize wrong E s = s9 at *
 generalize sT E s = s1 at *
 generalize tk E s = t at *
 go_enter Tryz.func57,Tryz.ntmps57
 go_wp2_with fail
 have HS0:=Lib.hid (HS.out.alloc (ndO zero (.slice none 0 0)))
 clear HS
 refine (HTA.out _ HS0.out.P).mono ?_
 rintro e w2 ⟨rfl,hP,hT⟩
 have HS1:=Lib.hid (HS0.out.call hP hT)
 clear hP hT HS0
 have HS2:=Lib.hid ((HS1.out.alloc (tnO t)).allocAt (ksO 0 [] none 0 0 t.at') (w2.heap.size + 1) (by simp))
 clear HS1 HTA
 go_wp2_with fail
 refine (HW1.out _ HS2.out.P).mono ?_
 rintro e w3 ⟨rfl,hP,hT⟩
 have HS3:=Lib.hid (HS2.out.call hP hT)
 clear hP hT HS2
 go_wp2_with fail
 refine (HW2.out _ HS3.out.P).mono ?_
 rintro e wa ⟨rfl,hP,hT⟩
 have HSa:=Lib.hid (HS3.out.call hP hT)
 clear hP hT HS3
 go_wp2_with fail
 refine (HW3.out _ HSa.out.P).mono ?_
 rintro e wb ⟨rfl,hP,hT⟩
 have HSb:=Lib.hid (HSa.out.call hP hT)
 clear hP hT HSa
 go_wp2_with fail
 refine (HW4.out _ HSb.out.P).mono ?_
 rintro e wc ⟨rfl,hP,hT⟩
 have HSc:=Lib.hid (HSb.out.call hP hT)
 clear hP hT HSb
 go_wp2_with fail
 refine (HW5.out _ HSc.out.P).mono ?_
 rintro e wd ⟨rfl,hP,hT⟩
 have HSd:=Lib.hid (HSc.out.call hP hT)
 clear hP hT HSc
 go_wp2_with fail
 refine (HWR.out _ HSd.out.P).mono ?_
 rintro e w7 ⟨⟨uw7,rfl⟩,hP,hT⟩
 have HS7:=Lib.hid (HSd.out.call hP hT)
 clear hP hT HSd
 obtain ⟨r0,r1,r2,r3,r4,rf0,rf1,rf2,rf3,rf4,rl⟩:=HS7.out.c5 0 rfl
 obtain ⟨q0,q1,q2,q3,q4,qf0,qf1,qf2,qf3,qf4,ql⟩:=HS7.out.c5 2 rfl
 go_wp2_with fail
 have HSF:=Lib.hid ((HS7.out.set5 2 rfl (.int .i64 0) (.string ⟨#[]⟩) (.float .f64 0) (.slice none 0 0) (.int .i64 t.at')))
 generalize (((((w7.setCell _ _).setCell _ _).setCell _ _).setCell _ _).setCell _ _) = wf at HSF ⊢
 obtain ⟨z0,z1,z2,z3,z4,zf0,zf1,zf2,zf3,zf4,zl⟩:=HSF.out.c5 2 rfl
 refine bodyPost_ret (v:=.agg #[.int .i64 0,.string ⟨#[]⟩,.float .f64 0,.slice none 0 0,.int .i64 t.at']) (by simp [results,Tryz.results57,go_sem,z0,z1,z2,z3,z4]) rfl ?_
 exact HSF.out.leaf (.mk 0 [] 0 [] t.at') rfl
set_option maxHeartbeats 4000000 in
theorem stmt_while {p:Nat} {v:Value} {E:PE} {f:Nat} (J:Jobs p v E f) (s:PS) (x:Nd) (s2:PS) (W:World) (hf:16 * ms E s + 2 ≤ f + 1) (hr:run E (f + 1) .stmt s = some ([x],s2)) (h:PAt W p v E s) (h1:isW E wSet s = false) (h2:isW E wIf s = false) (h3:isW E wWhile s = true) :
  Calls Tryz.prog 57 #[PP p] W (NodeR p v E s2 x W):=by
 have HS:=Lib.hid (SW.start h)
 have HTA:=Lib.hid (fun W h=>t_any p v E s W h)
 have HW1:=Lib.hid (fun W h=>word_fix p v E s _ wSet _ W h rfl h1)
 have HW2:=Lib.hid (fun W h=>word_fix p v E s _ wIf _ W h rfl h2)
 have HW3:=Lib.hid (fun W h=>word_fix p v E s _ wWhile _ W h rfl h3)
 obtain ⟨hi,hmi⟩:=isW_inc h3
 rw [run,if_neg (by rw [h1];exact Bool.false_ne_true),if_neg (by rw [h2];exact Bool.false_ne_true),if_pos h3] at hr
 obtain ⟨y,s4,h6,h7,-⟩:=(run_ends E f (.bin 0) (inc (sT E s)) (by simp [okJ]) (by simp only [rank];omega)).one rfl
 simp only [h6] at hr
 obtain ⟨z,s5,h8,h9,-⟩:=(run_ends E f .block s4 (by simp [okJ]) (by simp only [rank];omega)).one rfl
 simp only [h8] at hr
 cases hr
 have HJ:=Lib.hid (fun W h=>expr_any J _ y s4 W (by simp only [rank];omega) h6 h)
 have HJ2:=Lib.hid (fun W h=>J.block s4 z s2 W (by simp only [rank];omega) h8 h)
 clear J hf h h1 h2 h3 hmi h6 h7 h8 h9
 generalize sT E s = s1 at *
 generalize tk E s = t at *
 go_enter Tryz.func57,Tryz.ntmps57
 go_wp2_with fail
 have HS0:=Lib.hid (HS.out.alloc (ndO zero (.slice none 0 0)))
 clear HS
 refine (HTA.out _ HS0.out.P).mono ?_
 rintro e w2 ⟨rfl,hP,hT⟩
 have HS1:=Lib.hid (HS0.out.call hP hT)
 clear hP hT HS0
 have HS2:=Lib.hid ((HS1.out.alloc (tnO t)).allocAt (ksO 0 [] none 0 0 t.at') (w2.heap.size + 1) (by simp))
 clear HS1 HTA
 go_wp2_with fail
 refine (HW1.out _ HS2.out.P).mono ?_
 rintro e w3 ⟨rfl,hP,hT⟩
 have HS3:=Lib.hid (HS2.out.call hP hT)
 clear hP hT HS2
 go_wp2_with fail
 refine (HW2.out _ HS3.out.P).mono ?_
 rintro e wa ⟨rfl,hP,hT⟩
 have HSa:=Lib.hid (HS3.out.call hP hT)
 clear hP hT HS3
 go_wp2_with fail
 refine (HW3.out _ HSa.out.P).mono ?_
 rintro e wb ⟨rfl,hP,hT⟩
 have HSe:=Lib.hid (HSa.out.call hP hT)
 clear hP hT HSa
 have hcs:=HSe.out.P.cells
 have q1:=hcs.c1
 have f1:=hcs.f1
 have hle:=HSe.out.P.le
 have hlen:=HSe.out.P.len
 have hpl:=HSe.out.P.lt
 clear hcs
 obtain ⟨r0,r1,r2,r3,r4,rf0,rf1,rf2,rf3,rf4,rl⟩:=HSe.out.c5 0 rfl
 obtain ⟨rn,rm⟩:=HSe.out.ne 0 rfl
 go_wp2_with fail
 have HS5:=Lib.hid ((HSe.out.inc hi).setL 0 rfl 0 (.int .i64 11))
 clear HSe
 refine (HJ.out _ HS5.out.P).mono ?_
 rintro e w6 ⟨aw6,nw6,Sw6,rfl,hk,hS,hP,hT⟩
 have HS6:=Lib.hid (HS5.out.callT hk hS hP hT)
 clear hk hS hP hT
 clear q1 f1 hle hlen hpl
 clear r0 r1 r2 r3 r4 rf0 rf1 rf2 rf3 rf4 rl
 clear rn rm HJ HS5
 go_upto_region 26 with fail
 have HS7:=Lib.hid (HS6.out.alloc (ndO y (.slice aw6 y.kids.length nw6)))
 clear HS6
 change Code.wp _ _ _ _ (w6.alloc (ndO y (.slice aw6 y.kids.length nw6)))
 generalize w6.alloc (ndO y (.slice aw6 y.kids.length nw6)) = w7 at *
 generalize w6.heap.size = bc at *
 obtain ⟨c0,c1,c2,c3,c4,cf0,cf1,cf2,cf3,cf4,cl⟩:=HS7.out.c5 0 rfl
 go_region_law
  (first
   | (go_simp
      go_at_call 83
      refine (HJ2.out _ (by first | exact HS7.out.P | exact HS7.out.drew.P)).mono ?_
      rintro e w8 ⟨a8,n8,S8,rfl,hk,hS,hP,hT⟩
      have HS8:=Lib.hid (HS7.out.drew.callT hk hS hP hT)
      clear hk hS hP hT
      obtain ⟨r0,r1,r2,r3,r4,rf0,rf1,rf2,rf3,rf4,rl⟩:=HS8.out.c5 1 rfl
      obtain ⟨d0,d1,d2,d3,d4,df0,df1,df2,df3,df4,dl⟩:=HS8.out.c5 0 rfl))
 all_goals
  have HSd:=Lib.hid (SW.buildAt [_,_] (HS8.out.setL 1 rfl 3 (.slice (some ⟨w8.heap.size,0,none⟩) 2 2)).swap [y,z] rfl (by simp) w8.heap.size (by simp) #[.int .i64 y.kind,.string ⟨y.text.toArray⟩,.float .f64 y.num,.slice aw6 y.kids.length nw6,.int .i64 y.at',.int .i64 z.kind,.string ⟨z.text.toArray⟩,.float .f64 z.num,.slice a8 z.kids.length n8,.int .i64 z.at'] rfl 2 rfl)
  clear HS8 HS7 HJ2
  clear c0 c1 c2 c3 c4 cf0 cf1 cf2 cf3 cf4 cl
  clear r0 r1 r2 r3 r4 rf0 rf1 rf2 rf3 rf4 rl
  clear d0 d1 d2 d3 d4 df0 df1 df2 df3 df4 dl
  generalize hw9:(World.alloc (w8.setCell _ _) _) = wg at HSd ⊢
  clear hw9
  obtain ⟨r0,r1,r2,r3,r4,rf0,rf1,rf2,rf3,rf4,rl⟩:=HSd.out.c5 1 rfl
  obtain ⟨q0,q1,q2,q3,q4,qf0,qf1,qf2,qf3,qf4,ql⟩:=HSd.out.c5 3 rfl
  go_wp2_with fail
  have HSF:=Lib.hid ((HSd.out.set5 3 rfl (.int .i64 11) (.string ⟨#[]⟩) (.float .f64 0) (.slice (some ⟨w8.heap.size,0,none⟩) 2 2) (.int .i64 t.at')))
  generalize (((((wg.setCell _ _).setCell _ _).setCell _ _).setCell _ _).setCell _ _) = wf at HSF ⊢
  obtain ⟨z0,z1,z2,z3,z4,zf0,zf1,zf2,zf3,zf4,zl⟩:=HSF.out.c5 3 rfl
  refine bodyPost_ret (v:=.agg #[.int .i64 11,.string ⟨#[]⟩,.float .f64 0,.slice (some ⟨w8.heap.size,0,none⟩) 2 2,.int .i64 t.at']) (by simp [results,Tryz.results57,go_sem,z0,z1,z2,z3,z4]) rfl ?_
  exact HSF.out.node (List.mem_cons_self ..) (.mk 11 [] 0 [y,z] t.at') rfl
theorem SW.rev3 {w W:World} {p:Nat} {v:Value} {E:PE} {s:PS} {L:List (Nat × Obj)} {a b c:Tr} {K:List Tr} (h:SW w W p v E s L (a :: b :: c :: K)):SW w W p v E s L (c :: b :: a :: K):=by
 have h1:=List.pairwise_cons.1 h.ndk
 have h2:=List.pairwise_cons.1 h1.2
 have h3:=List.pairwise_cons.1 h2.2
 have mem:∀ k,k ∈ c :: b :: a :: K → k ∈ a :: b :: c :: K:=fun k hk=>by simp at hk ⊢;rcases hk with h | h | h | h <;> simp [h]
 refine ⟨h.P,h.T,h.plt,h.own,h.loc,fun k hk=>h.trees k (mem k hk),h.ndl,fun l hl k hk=>h.dis l hl k (mem k hk),.cons (fun k hk x hx hx2 => ?_) (.cons (fun k hk x hx hx2 => ?_) (.cons (fun k hk=>h1.1 k (by simp [hk])) h3.2))⟩
 ·rcases List.mem_cons.1 hk with rfl | hk
  ·exact h2.1 c (by simp) x hx2 hx
  ·rcases List.mem_cons.1 hk with rfl | hk
   ·exact h1.1 c (by simp) x hx2 hx
   ·exact h3.1 k hk x hx hx2
 ·rcases List.mem_cons.1 hk with rfl | hk
  ·exact h1.1 b (by simp) x hx2 hx
  ·exact h2.1 k (by simp [hk]) x hx hx2
set_option maxHeartbeats 1000000 in
theorem stmt_if {p:Nat} {v:Value} {E:PE} {f:Nat} (J:Jobs p v E f) (s:PS) (x:Nd) (s2:PS) (W:World) (hf:16 * ms E s + 2 ≤ f + 1) (hr:run E (f + 1) .stmt s = some ([x],s2)) (h:PAt W p v E s) (h1:isW E wSet s = false) (h2:isW E wIf s = true) :
  Calls Tryz.prog 57 #[PP p] W (NodeR p v E s2 x W):=by
 have HS:=Lib.hid (SW.start h)
 have HTA:=Lib.hid (fun W h=>t_any p v E s W h)
 have HW1:=Lib.hid (fun W h=>word_fix p v E s _ wSet _ W h rfl h1)
 have HW2:=Lib.hid (fun W h=>word_fix p v E s _ wIf _ W h rfl h2)
 obtain ⟨hi,hmi⟩:=isW_inc h2
 rw [run,if_neg (by rw [h1];exact Bool.false_ne_true),if_pos h2] at hr
 obtain ⟨y,s4,h6,h7,-⟩:=(run_ends E f (.bin 0) (inc (sT E s)) (by simp [okJ]) (by simp only [rank];omega)).one rfl
 simp only [h6] at hr
 obtain ⟨z,s5,h8,h9,-⟩:=(run_ends E f .block s4 (by simp [okJ]) (by simp only [rank];omega)).one rfl
 simp only [h8] at hr
 have HJ:=Lib.hid (fun W h=>expr_any J _ y s4 W (by simp only [rank];omega) h6 h)
 have HJ2:=Lib.hid (fun W h=>J.block s4 z s5 W (by simp only [rank];omega) h8 h)
 have HW3:=Lib.hid (fun W h=>word_any p v E s5 wElse _ W h rfl)
 have HI2:Hid (isW E wElse s5 = true → (sT E s5).i < E.ts.length ∧ ms E (inc (sT E s5)) < ms E s5):=isW_inc
 have HM:Hid (ms E s5 ≤ ms E s ∧ 16 * ms E s + 2 ≤ f + 1):=⟨by omega,hf⟩
 have HR:=Lib.hid hr
 have HJJ:=Lib.hid J
 clear J hf hr h h1 h2 hmi h6 h7 h8 h9
 generalize isW E wElse s5 = be at *
 generalize sT E s5 = s6 at *
 generalize sT E s = s1 at *
 generalize tk E s = t at *
 go_enter Tryz.func57,Tryz.ntmps57
 go_wp2_with fail
 have HS0:=Lib.hid (HS.out.alloc (ndO zero (.slice none 0 0)))
 clear HS
 refine (HTA.out _ HS0.out.P).mono ?_
 rintro e w2 ⟨rfl,hP,hT⟩
 have HS1:=Lib.hid (HS0.out.call hP hT)
 clear hP hT HS0
 have HS2:=Lib.hid ((HS1.out.alloc (tnO t)).allocAt (ksO 0 [] none 0 0 t.at') (w2.heap.size + 1) (by simp))
 clear HS1 HTA
 go_wp2_with fail
 refine (HW1.out _ HS2.out.P).mono ?_
 rintro e w3 ⟨rfl,hP,hT⟩
 have HS3:=Lib.hid (HS2.out.call hP hT)
 clear hP hT HS2
 go_wp2_with fail
 refine (HW2.out _ HS3.out.P).mono ?_
 rintro e wa ⟨rfl,hP,hT⟩
 have HSe:=Lib.hid (HS3.out.call hP hT)
 clear hP hT HS3
 have hcs:=HSe.out.P.cells
 have q1:=hcs.c1
 have f1:=hcs.f1
 have hle:=HSe.out.P.le
 have hlen:=HSe.out.P.len
 have hpl:=HSe.out.P.lt
 clear hcs
 obtain ⟨r0,r1,r2,r3,r4,rf0,rf1,rf2,rf3,rf4,rl⟩:=HSe.out.c5 0 rfl
 obtain ⟨rn,rm⟩:=HSe.out.ne 0 rfl
 go_wp2_with fail
 have HS5:=Lib.hid ((HSe.out.inc hi).setL 0 rfl 0 (.int .i64 10))
 clear HSe
 refine (HJ.out _ HS5.out.P).mono ?_
 rintro e w6 ⟨aw6,nw6,Sw6,rfl,hk,hS,hP,hT⟩
 have HS6:=Lib.hid (HS5.out.callT hk hS hP hT)
 clear hk hS hP hT
 have HS7:=Lib.hid (HS6.out.alloc (ndO y (.slice aw6 y.kids.length nw6)))
 clear q1 f1 hle hlen hpl
 clear r0 r1 r2 r3 r4 rf0 rf1 rf2 rf3 rf4 rl
 clear rn rm HJ HS5
 go_wp2_with fail
 refine (HJ2.out _ HS7.out.P).mono ?_
 rintro e w8 ⟨aw8,nw8,Sw8,rfl,hk,hS,hP,hT⟩
 have HS8:=Lib.hid (HS7.out.callT hk hS hP hT)
 clear hk hS hP hT
 have HS9:=Lib.hid ((HS8.out.alloc (ndO z (.slice aw8 z.kids.length nw8))).allocAt (ksO 0 [] none 0 0 t.at') (w8.heap.size + 1) (by simp))
 obtain ⟨t0,t1,t2,t3,tf0,tf1,tf2,tf3,tl⟩:=HS8.out.c4 2 rfl
 go_wp2_with fail
 refine (HW3.out _ HS9.out.P).mono ?_
 rintro e w9 ⟨rfl,hP,hT⟩
 have HSa:=Lib.hid (HS9.out.call hP hT)
 clear hP hT HS9
 clear t0 t1 t2 t3 tf0 tf1 tf2 tf3 tl
 have hr:=HR.out
 clear HR HS8 HS7 HS6
 cases be with
 | false =>
  simp only [Bool.false_eq_true,↓reduceIte] at hr
  cases hr
  have HSA:=Lib.hid HSa.out.addNil
  clear HSa
  generalize w6.heap.size = bc at *
  generalize w8.heap.size + 1 = be2 at *
  generalize w8.heap.size = bd at *
  generalize w2.heap.size + 1 = bx at *
  obtain ⟨c0,c1,c2,c3,c4,-,-,-,-,-,cl⟩:=HSA.out.c5 2 rfl
  obtain ⟨d0,d1,d2,d3,d4,-,-,-,-,-,dl⟩:=HSA.out.c5 1 rfl
  obtain ⟨e0,e1,e2,e3,e4,-,-,-,-,-,el⟩:=HSA.out.c5 0 rfl
  have r3:=(HSA.out.c5 3 rfl).c3
  have rf3:=(HSA.out.c5 3 rfl).f3
  have rl:=(HSA.out.c5 3 rfl).lt
  go_upto_region 34 with fail
  have HSd:=Lib.hid (SW.buildAt [_,_,_] (HSA.out.setL 3 rfl 3 (.slice (some ⟨w9.heap.size,0,none⟩) 3 3)).rev3 [y,z,.mk 0 [] 0 [] t.at'] rfl (by simp) w9.heap.size (by simp) #[.int .i64 y.kind,.string ⟨y.text.toArray⟩,.float .f64 y.num,.slice aw6 y.kids.length nw6,.int .i64 y.at',.int .i64 z.kind,.string ⟨z.text.toArray⟩,.float .f64 z.num,.slice aw8 z.kids.length nw8,.int .i64 z.at',.int .i64 0,.string ⟨#[]⟩,.float .f64 0,.slice none 0 0,.int .i64 t.at'] rfl 3 rfl)
  generalize hw9:(World.alloc (w9.setCell _ _) _) = wg at HSd ⊢
  clear hw9 HSA
  clear c0 c1 c2 c3 c4 cl
  clear d0 d1 d2 d3 d4 dl
  clear e0 e1 e2 e3 e4 el
  clear r3 rf3 rl
  obtain ⟨r0,r1,r2,r3,r4,rf0,rf1,rf2,rf3,rf4,rl⟩:=HSd.out.c5 3 rfl
  obtain ⟨q0,q1,q2,q3,q4,qf0,qf1,qf2,qf3,qf4,ql⟩:=HSd.out.c5 5 rfl
  go_wp2_with fail
  have HSF:=Lib.hid ((HSd.out.set5 5 rfl (.int .i64 10) (.string ⟨#[]⟩) (.float .f64 0) (.slice (some ⟨w9.heap.size,0,none⟩) 3 3) (.int .i64 t.at')))
  generalize (((((wg.setCell _ _).setCell _ _).setCell _ _).setCell _ _).setCell _ _) = wf at HSF ⊢
  obtain ⟨z0,z1,z2,z3,z4,zf0,zf1,zf2,zf3,zf4,zl⟩:=HSF.out.c5 5 rfl
  refine bodyPost_ret (v:=.agg #[.int .i64 10,.string ⟨#[]⟩,.float .f64 0,.slice (some ⟨w9.heap.size,0,none⟩) 3 3,.int .i64 t.at']) (by simp [results,Tryz.results57,go_sem,z0,z1,z2,z3,z4]) rfl ?_
  exact HSF.out.node (List.mem_cons_self ..) (.mk 10 [] 0 [y,z,.mk 0 [] 0 [] t.at'] t.at') rfl
 | true =>
  simp only [↓reduceIte] at hr
  obtain ⟨hi2,hmi2⟩:=HI2.out rfl
  have hm:=HM.out
  obtain ⟨o,s7,h1,h2,-⟩:=(run_ends E f .block (inc s6) (by simp [okJ]) (by simp only [rank];omega)).one rfl
  simp only [h1] at hr
  cases hr
  have HJ3:=Lib.hid (fun W h=>HJJ.out.block (inc s6) o s2 W (by simp only [rank];omega) h1 h)
  clear HJJ h1 h2 hm HM hmi2 HI2
  have hcs:=HSa.out.P.cells
  have q1:=hcs.c1
  have f1:=hcs.f1
  have hle:=HSa.out.P.le
  have hlen:=HSa.out.P.len
  have hpl:=HSa.out.P.lt
  clear hcs
  go_wp2_with fail
  have HSb:=Lib.hid (HSa.out.inc hi2)
  clear HSa
  refine (HJ3.out _ HSb.out.P).mono ?_
  rintro e wc ⟨awc,nwc,Swc,rfl,hk,hS,hP,hT⟩
  have HSc:=Lib.hid (HSb.out.callT hk hS hP hT)
  clear hk hS hP hT
  clear q1 f1 hle hlen hpl
  obtain ⟨e0,e1,e2,e3,e4,ef0,ef1,ef2,ef3,ef4,el⟩:=HSc.out.c5 0 rfl
  go_upto_region 21 with fail
  have HSA:=Lib.hid (HSc.out.set5 0 rfl (.int .i64 o.kind) (.string ⟨o.text.toArray⟩) (.float .f64 o.num) (.slice awc o.kids.length nwc) (.int .i64 o.at'))
  generalize (((((wc.setCell _ _).setCell _ _).setCell _ _).setCell _ _).setCell _ _) = wq at HSA ⊢
  clear HSc HSb
  clear e0 e1 e2 e3 e4 ef0 ef1 ef2 ef3 ef4 el
  generalize w6.heap.size = bc at *
  generalize w8.heap.size + 1 = be2 at *
  generalize w8.heap.size = bd at *
  generalize w2.heap.size + 1 = bx at *
  obtain ⟨c0,c1,c2,c3,c4,-,-,-,-,-,cl⟩:=HSA.out.c5 2 rfl
  obtain ⟨d0,d1,d2,d3,d4,-,-,-,-,-,dl⟩:=HSA.out.c5 1 rfl
  obtain ⟨e0,e1,e2,e3,e4,-,-,-,-,-,el⟩:=HSA.out.c5 0 rfl
  have r3:=(HSA.out.c5 3 rfl).c3
  have rf3:=(HSA.out.c5 3 rfl).f3
  have rl:=(HSA.out.c5 3 rfl).lt
  go_upto_region 34 with fail
  have HSd:=Lib.hid (SW.buildAt [_,_,_] (HSA.out.setL 3 rfl 3 (.slice (some ⟨wq.heap.size,0,none⟩) 3 3)).rev3 [y,z,o] rfl (by simp) wq.heap.size (by simp) #[.int .i64 y.kind,.string ⟨y.text.toArray⟩,.float .f64 y.num,.slice aw6 y.kids.length nw6,.int .i64 y.at',.int .i64 z.kind,.string ⟨z.text.toArray⟩,.float .f64 z.num,.slice aw8 z.kids.length nw8,.int .i64 z.at',.int .i64 o.kind,.string ⟨o.text.toArray⟩,.float .f64 o.num,.slice awc o.kids.length nwc,.int .i64 o.at'] rfl 3 rfl)
  generalize hw9:(World.alloc (wq.setCell _ _) _) = wg at HSd ⊢
  clear hw9 HSA
  clear c0 c1 c2 c3 c4 cl
  clear d0 d1 d2 d3 d4 dl
  clear e0 e1 e2 e3 e4 el
  clear r3 rf3 rl
  obtain ⟨r0,r1,r2,r3,r4,rf0,rf1,rf2,rf3,rf4,rl⟩:=HSd.out.c5 3 rfl
  obtain ⟨q0,q1,q2,q3,q4,qf0,qf1,qf2,qf3,qf4,ql⟩:=HSd.out.c5 5 rfl
  go_wp2_with fail
  have HSF:=Lib.hid ((HSd.out.set5 5 rfl (.int .i64 10) (.string ⟨#[]⟩) (.float .f64 0) (.slice (some ⟨wq.heap.size,0,none⟩) 3 3) (.int .i64 t.at')))
  generalize (((((wg.setCell _ _).setCell _ _).setCell _ _).setCell _ _).setCell _ _) = wf at HSF ⊢
  obtain ⟨z0,z1,z2,z3,z4,zf0,zf1,zf2,zf3,zf4,zl⟩:=HSF.out.c5 5 rfl
  refine bodyPost_ret (v:=.agg #[.int .i64 10,.string ⟨#[]⟩,.float .f64 0,.slice (some ⟨wq.heap.size,0,none⟩) 3 3,.int .i64 t.at']) (by simp [results,Tryz.results57,go_sem,z0,z1,z2,z3,z4]) rfl ?_
  exact HSF.out.node (List.mem_cons_self ..) (.mk 10 [] 0 [y,z,o] t.at') rfl
theorem stmt_step {p:Nat} {v:Value} {E:PE} {f:Nat} (J:Jobs p v E f) (s:PS) (x:Nd) (s2:PS) (W:World) (hf:16 * ms E s + 2 ≤ f + 1) (hr:run E (f + 1) .stmt s = some ([x],s2)) (h:PAt W p v E s):Calls Tryz.prog 57 #[PP p] W (NodeR p v E s2 x W):=by
 cases h1:isW E wSet s with
 | true=>exact stmt_set J s x s2 W hf hr h h1
 | false =>
 cases h2:isW E wIf s with
 | true=>exact stmt_if J s x s2 W hf hr h h1 h2
 | false =>
 cases h3:isW E wWhile s with
 | true=>exact stmt_while J s x s2 W hf hr h h1 h2 h3
 | false =>
 cases h4:isW E wDo s with
 | true=>exact stmt_do J s x s2 W hf hr h h1 h2 h3 h4
 | false =>
 cases h5:isW E wFail s with
 | true=>exact stmt_fail J s x s2 W hf hr h h1 h2 h3 h4 h5
 | false=>exact stmt_no J s x s2 W hf hr h h1 h2 h3 h4 h5
end Go.Proofs.YtmfpmandkhiknaaGreatDoor.par
