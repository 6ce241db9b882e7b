/-
  Proved: what stmt of the program's parser leaves at while, set. Conditions: as each theorem says.
  Proved: a row of nodes that lies as a local becomes a tree. Conditions: as each theorem says.
  Proved: what stmt of the program's parser leaves at if. Conditions: as each theorem says.
  Proved: what the readers of the program's parser leave: all, by induction. Conditions: as each theorem says.
-/
import Derived.Test.YtmfpmandkhiknaaGreatDoorPu16
set_option linter.unusedVariables false
set_option linter.unusedSimpArgs false
namespace Go.Proofs.YtmfpmandkhiknaaGreatDoor.qar
open par
open Go.RowKit
open heap
open lex (Tk TRow TkAt run_store_float add0)
set_option maxRecDepth 100000
attribute [local go_sem] run_store_float field_tok0 field_tok1 field_tok3
set_option maxHeartbeats 4000000 in
theorem stmt_while {p:Nat} {v:Value} {E:PE} {f:Nat} (J:∀ k,k ≤ f → QJobs p v E k) (s:PS) (x:Nd) (s2:PS) (W:World) (hf:16 * ms E s + rank .stmt ≤ f + 1) (hr:run E (f + 1) .stmt s = some ([x],s2)) (h:PAt W p v E s) (h1:isW E wSet s = false) (h2:isW E wIf s = false) (h3:isW E wWhile s = true):Calls Tryz.prog 80 #[PP p] W (NodeR p v E s.i s2 x W):=by
 have HS:=Lib.hid (SW.start h)
 have HN:=Lib.hid (fun W h=>now_any p v E s W h)
 have HW1:=Lib.hid (fun W hW=>word_any p v E s wSet false W hW h1)
 have HW2:=Lib.hid (fun W hW=>word_any p v E s wIf false W hW h2)
 have HW3:=Lib.hid (fun W hW=>(word_any p v E s wWhile true W hW h3:Calls Tryz.prog _ _ W (StpR p v E (inc s) (.bool true) W)))
 obtain ⟨hi,hsT,htk⟩:=h.moreW h3
 have hk:=isW_kind h3
 rw [htk] at hk
 have hmi:=ms_inc (E:=E) (s:=s) (by rw [htk,hk.1];decide)
 rw [hsT] at hmi
 simp only [rank] at hf
 rw [run,if_neg (by have:isW E [115,101,116] s = false:=h1;rw [this];decide),if_neg (by have:isW E [105,102] s = false:=h2;rw [this];decide),if_pos (by exact h3),hsT,htk] at hr
 cases hra:run E f (.bin 0) (inc s) with
 | none=>rw [hra] at hr;cases hr
 | some r =>
 obtain ⟨ys,s4⟩:=r
 rw [hra] at hr
 match ys,hr with
 | [],hr=>cases hr
 | _ :: _ :: _,hr=>cases hr
 | [y],hr =>
 simp only at hr
 cases hrb:run E f .block s4 with
 | none=>rw [hrb] at hr;cases hr
 | some r =>
 obtain ⟨zs,s5⟩:=r
 rw [hrb] at hr
 match zs,hr with
 | [],hr=>cases hr
 | _ :: _ :: _,hr=>cases hr
 | [z],hr =>
 simp only at hr
 cases hr
 have HJ:=Lib.hid (fun W hW=>(J f (Nat.le_refl _)).expr (inc s) y s4 W (by simp only [rank];omega) hra hW)
 have HJJ:=Lib.hid (fun t W hm hb hW=>(J f (Nat.le_refl _)).blocked t z s2 W hm hb hW)
 have HM:Hid (16 * ms E (inc s) + 14 ≤ f ∧ (inc s).code = 0 ∧ run E f .block s4 = some ([z],s2)):=⟨by omega,h.c0,hrb⟩
 have HSK:=Lib.hid (run_stk E _ _ _ _ _ hrb)
 clear hf h J hra hmi hsT htk h1 h2 h3 hrb
 generalize pn E s = t at *
 obtain ⟨kd,u,nm,a⟩:=t
 go_enter Tryz.func80,Tryz.ntmps80
 go_upto_region 1 with fail
 have HS0:=Lib.hid (HS.out.alloc (ndO zero (.slice none 0 0)))
 clear HS
 change Code.wp _ _ _ _ (W.alloc (ndO zero (.slice none 0 0)))
 generalize W.alloc (ndO zero (.slice none 0 0)) = w0 at *
 generalize W.heap.size = br at *
 go_wp2_with fail
 refine (HN.out _ HS0.out.P).mono ?_;rintro e w1 ⟨rfl,hb1⟩
 have HS3:=Lib.hid ((HS0.out.call (HS0.out.P.below hb1) (Turned.of_below hb1)).alloc (ksO 0 [] none 0 0 a))
 clear hb1 HN HS0
 go_upto_region 3 with fail
 change Code.wp _ _ _ _ (w1.alloc (ksO 0 [] none 0 0 a))
 generalize w1.alloc (ksO 0 [] none 0 0 a) = w3 at *
 generalize w1.heap.size = bx at *
 go_wp2_with fail
 refine (HW1.out _ HS3.out.P).mono ?_;rintro e wa ⟨rfl,hP,hT⟩
 have HSa:=Lib.hid (HS3.out.call hP hT)
 clear hP hT HW1 HS3
 go_wp2_with fail
 refine (HW2.out _ HSa.out.P).mono ?_;rintro e wb ⟨rfl,hP,hT⟩
 have HSb:=Lib.hid (HSa.out.call hP hT)
 clear hP hT HW2 HSa
 go_wp2_with fail
 refine (HW3.out _ HSb.out.P).mono ?_;rintro e wc ⟨rfl,hP,hT⟩
 have HSc:=Lib.hid (HSb.out.call hP hT)
 clear hP hT HW3 HSb
 obtain ⟨x0,x1,x2,x3,x4,xf0,xf1,xf2,xf3,xf4,xl⟩:=HSc.out.c5 0 rfl
 go_upto_region 15 with fail
 have HS5:=Lib.hid (HSc.out.setL 0 rfl 0 (.int .i64 11))
 generalize (wc.setCell _ _) = wd at HS5 ⊢
 clear HSc
 clear x0 x1 x2 x3 x4 xf0 xf1 xf2 xf3 xf4 xl
 go_wp2_with fail
 refine (HJ.out _ HS5.out.P).mono ?_
 rintro e w6 hnr
 rcases hnr with ⟨tw6,htw6,hiw6,aw6,nw6,Sw6,rfl,hk,hS,hP,hT⟩ | ⟨hc,rfl,hT⟩
 rotate_left
 ·go_wp2_with fail
  exact ⟨rfl,.thr hc ⟨rfl,hT⟩ (HS5.out).T (HSK.out)⟩
 have HS6:=Lib.hid (HS5.out.callT hk hS hP hT)
 have HAw6:=Lib.hid (And.intro htw6 hiw6)
 clear hk hS hP hT htw6 hiw6
 have HJ2:=Lib.hid (fun W hW=>HJJ.out tw6 W (by
  have:=HS6.out.P.ms (s:=inc s) HM.out.2.1 HAw6.out.2
  have:=HM.out.1
  simp only [rank]
  omega) (by rw [← Al.run HAw6.out.1 _ _ (fun _ h=>by cases h)];exact HM.out.2.2) hW)
 clear HJ HJJ HS5
 go_wp2_with fail
 refine (HJ2.out _ HS6.out.P).mono ?_
 rintro e w7 hnr
 rcases hnr with ⟨tw7,htw7,hiw7,aw7,nw7,Sw7,rfl,hk,hS,hP,hT⟩ | ⟨hc,rfl,hT⟩
 rotate_left
 ·go_wp2_with fail
  exact ⟨rfl,.thr hc ⟨rfl,hT⟩ (HS6.out).T (Stk.refl _)⟩
 have HS7:=Lib.hid (HS6.out.callT hk hS hP hT)
 have HAw7:=Lib.hid (And.intro htw7 hiw7)
 clear hk hS hP hT htw7 hiw7
 clear HJ2 HS6
 obtain ⟨x0,x1,x2,x3,x4,xf0,xf1,xf2,xf3,xf4,xl⟩:=HS7.out.c5 0 rfl
 go_upto_region 16 with fail
 have HSd:=Lib.hid (SW.buildAt [_,_] (HS7.out.setL 0 rfl 3 (.slice (some ⟨w7.heap.size,0,none⟩) 2 2)).swap [y,z] rfl (by simp) w7.heap.size (by simp) #[.int .i64 y.kind,.string ⟨y.text.toArray⟩,.float .f64 y.num,.slice aw6 y.kids.length nw6,.int .i64 y.at',.int .i64 z.kind,.string ⟨z.text.toArray⟩,.float .f64 z.num,.slice aw7 z.kids.length nw7,.int .i64 z.at'] rfl 2 rfl)
 generalize (World.alloc (w7.setCell _ _) _) = w8 at HSd ⊢
 clear HS7
 clear x0 x1 x2 x3 x4 xf0 xf1 xf2 xf3 xf4 xl
 obtain ⟨y0,y1,y2,y3,y4,yf0,yf1,yf2,yf3,yf4,yl⟩:=HSd.out.c5 0 rfl
 obtain ⟨r0,r1,r2,r3,r4,rf0,rf1,rf2,rf3,rf4,rl⟩:=HSd.out.c5 1 rfl
 go_wp2_with fail
 have HSH:=Lib.hid (HSd.out.set5 1 rfl (.int .i64 11) (.string ⟨#[]⟩) (.float .f64 0) (.slice (some ⟨w7.heap.size,0,none⟩) 2 2) (.int .i64 a))
 clear HSd
 generalize (((((w8.setCell _ _).setCell _ _).setCell _ _).setCell _ _).setCell _ _) = wf at HSH ⊢
 obtain ⟨z0,z1,z2,z3,z4,zf0,zf1,zf2,zf3,zf4,zl⟩:=HSH.out.c5 1 rfl
 refine bodyPost_ret (v:=.agg #[.int .i64 11,.string ⟨#[]⟩,.float .f64 0,.slice (some ⟨w7.heap.size,0,none⟩) 2 2,.int .i64 a]) (by simp [results,Tryz.results80,go_sem,z0,z1,z2,z3,z4]) rfl ?_
 exact .ok HAw7.out.1 (by have h1:s.i + 1 < tw6.i:=HAw6.out.2;have:=HAw7.out.2;omega) (HSH.out.node (List.mem_cons_self ..) (.mk 11 [] 0 [y,z] a) rfl)
theorem must_i {E:PE} {g:List UInt8} (s:PS):s.i ≤ (par.must E g s).i:=must_al_i (t:=s) (.inl rfl)
set_option maxHeartbeats 4000000 in
theorem stmt_set {p:Nat} {v:Value} {E:PE} {f:Nat} (J:∀ k,k ≤ f → QJobs p v E k) (s:PS) (x:Nd) (s2:PS) (W:World) (hf:16 * ms E s + rank .stmt ≤ f + 1) (hr:run E (f + 1) .stmt s = some ([x],s2)) (h:PAt W p v E s) (h1:isW E wSet s = true):Calls Tryz.prog 80 #[PP p] W (NodeR p v E s.i s2 x W):=by
 have HS:=Lib.hid (SW.start h)
 have HN:=Lib.hid (fun W h=>now_any p v E s W h)
 have HW1:=Lib.hid (fun W hW=>(word_any p v E s wSet true W hW h1:Calls Tryz.prog _ _ W (StpR p v E (inc s) (.bool true) W)))
 obtain ⟨hi,hsT,htk⟩:=h.moreW h1
 have hk:=isW_kind h1
 rw [htk] at hk
 have hmi:=ms_inc (E:=E) (s:=s) (by rw [htk,hk.1];decide)
 rw [hsT] at hmi
 simp only [rank] at hf
 rw [run,if_pos (by exact h1),hsT,htk] at hr
 cases hra:run E f (.bin 0) (must E [61] (pName E (inc s)).2) with
 | none=>rw [hra] at hr;cases hr
 | some r =>
 obtain ⟨ys,s4⟩:=r
 rw [hra] at hr
 match ys,hr with
 | [],hr=>cases hr
 | _ :: _ :: _,hr=>cases hr
 | [y],hr =>
 simp only at hr
 cases hr
 have hci:(inc s).code = 0:=h.c0
 have hkk:=(pn_kt (E:=E) hci).1
 have hkt:=(pn_kt (E:=E) hci).2
 obtain ⟨b,hb⟩:∃ b,((pn E (inc s)).kind == 1 && !kept (pn E (inc s)).text) = b:=⟨_,rfl⟩
 have hpN:if b = true then pName E (inc s) = (((pn E (inc s)).text,(pn E (inc s)).at'),inc (inc s)) else (pName E (inc s)).2 = wrong E (inc s):=by
  cases b with
  | true =>
   rw [if_pos rfl]
   rw [Bool.and_eq_true,Bool.not_eq_true',beq_iff_eq] at hb
   obtain ⟨e1,e2⟩:=more_at hci hb.1 (by decide)
   unfold pName
   rw [e1,e2,if_neg (by rintro (h | h);exact h hb.1;rw [hb.2] at h;cases h)]
  | false =>
   rw [if_neg (by decide)]
   unfold pName
   rw [if_pos,wrong_sT2]
   by_cases h1:(pn E (inc s)).kind = 1
   ·right
    rw [h1] at hb
    have:kept (pn E (inc s)).text = true:=by simpa using hb
    obtain ⟨e1,e2⟩:=more_at hci h1 (by decide)
    rw [e1];exact this
   ·left
    rw [← hkk];exact h1
 have HKN:=Lib.hid (fun s2 (h2:if b = true then s2 = inc (inc s) else s2 = wrong E (inc s)) W (hW:PAt W p v E (inc s))=>kindN_any p v E (inc s) W hW s2 b hb h2)
 have HSK:Hid (Stk (pName E (inc s)).2 (must E [59] s4) ∧ Stk (must E [61] (pName E (inc s)).2) (must E [59] s4)):=by
  have e1:=run_stk E _ _ _ _ _ hra
  exact ⟨((stk_must E [61] _).trans e1).trans (stk_must E _ _),e1.trans (stk_must E _ _)⟩
 have HP:=Lib.hid hpN
 have HM:Hid (16 * ms E (inc s) + 14 ≤ f ∧ (inc s).code = 0 ∧ run E f (.bin 0) (must E [61] (pName E (inc s)).2) = some ([y],s4)):=⟨by omega,hci,hra⟩
 have HJJ:=Lib.hid (fun t W hm hb hW=>(J f (Nat.le_refl _)).expr t y s4 W hm hb hW)
 clear hf h J hra hmi hsT htk h1 hkk hkt hb hpN hci
 generalize pn E s = t at *
 obtain ⟨kd,u,nm,a⟩:=t
 go_enter Tryz.func80,Tryz.ntmps80
 go_upto_region 1 with fail
 have HS0:=Lib.hid (HS.out.alloc (ndO zero (.slice none 0 0)))
 clear HS
 change Code.wp _ _ _ _ (W.alloc (ndO zero (.slice none 0 0)))
 generalize W.alloc (ndO zero (.slice none 0 0)) = w0 at *
 generalize W.heap.size = br at *
 go_wp2_with fail
 refine (HN.out _ HS0.out.P).mono ?_;rintro e w1 ⟨rfl,hb1⟩
 have HS3:=Lib.hid ((HS0.out.call (HS0.out.P.below hb1) (Turned.of_below hb1)).alloc (ksO 0 [] none 0 0 a))
 clear hb1 HN HS0
 go_upto_region 3 with fail
 change Code.wp _ _ _ _ (w1.alloc (ksO 0 [] none 0 0 a))
 generalize w1.alloc (ksO 0 [] none 0 0 a) = w3 at *
 generalize w1.heap.size = bx at *
 go_wp2_with fail
 refine (HW1.out _ HS3.out.P).mono ?_;rintro e wc ⟨rfl,hP,hT⟩
 have HSc:=Lib.hid (HS3.out.call hP hT)
 clear hP hT HW1 HS3
 obtain ⟨x0,x1,x2,x3,x4,xf0,xf1,xf2,xf3,xf4,xl⟩:=HSc.out.c5 0 rfl
 go_wp2_with fail
 cases b with
 | false =>
  have hp:=HP.out
  rw [if_neg (by decide)] at hp
  refine (HKN.out _ rfl _ HSc.out.P).mono ?_
  rintro e w5 ⟨-,hbad⟩
  obtain ⟨rfl,hT⟩:=hbad (wrong_code E _)
  go_wp2_with fail
  exact ⟨rfl,.thr (wrong_code E _) ⟨rfl,hT⟩ HSc.out.T (by rw [← hp];exact HSK.out.1)⟩
 | true =>
  have hp:=HP.out
  rw [if_pos rfl] at hp
  rw [hp] at HSK HM
  have HP2:Hid ((pName E (inc s)).1.1 = (pn E (inc s)).text):=by unfold Hid;rw [hp]
  refine (HKN.out _ rfl _ HSc.out.P).mono ?_
  rintro e w5 ⟨hok,-⟩
  obtain ⟨rfl,hP,hT⟩:=hok HM.out.2.1
  have HS5:=Lib.hid (HSc.out.call hP hT)
  clear hP hT hok HKN HSc HP hp
  clear x0 x1 x2 x3 x4 xf0 xf1 xf2 xf3 xf4 xl
  obtain ⟨x0,x1,x2,x3,x4,xf0,xf1,xf2,xf3,xf4,xl⟩:=HS5.out.c5 0 rfl
  have HMS1:=Lib.hid (fun W hW=>must_any p v E (inc (inc s)) [61] W hW)
  generalize pn E (inc s) = t1 at *
  obtain ⟨kd1,u1,nm1,a1⟩:=t1
  go_upto_region 5 with fail
  have HS6:=Lib.hid ((HS5.out.setL 0 rfl 0 (.int .i64 9)).setL 0 rfl 1 (.string ⟨u1.toArray⟩))
  generalize ((w5.setCell _ _).setCell _ _) = w6 at HS6 ⊢
  clear HS5
  clear x0 x1 x2 x3 x4 xf0 xf1 xf2 xf3 xf4 xl
  go_wp2_with fail
  refine (HMS1.out _ HS6.out.P).mono ?_
  rintro e w7 ⟨hok,hbad⟩
  rcases Classical.em ((must E [61] (inc (inc s))).code = 0) with hc | hc
  rotate_left
  ·obtain ⟨rfl,hT⟩:=hbad hc
   go_wp2_with fail
   exact ⟨rfl,.thr hc ⟨rfl,hT⟩ (HS6.out).T (HSK.out.2)⟩
  obtain ⟨rfl,hP,hT⟩:=hok hc
  have HS7:=Lib.hid (HS6.out.call hP hT)
  clear hP hT hok hbad hc
  have HJ:=Lib.hid (fun W hW=>HJJ.out (must E [61] (inc (inc s))) W (by
   have:=ms_must E [61] (inc (inc s))
   have h2:ms E (inc (inc s)) ≤ ms E (inc s):=ms_i (E:=E) (s:=inc s) (t:=inc (inc s)) rfl (Nat.le_succ _)
   have:=HM.out.1
   simp only [rank]
   omega) HM.out.2.2 hW)
  clear HMS1 HS6 HJJ
  go_wp2_with fail
  refine (HJ.out _ HS7.out.P).mono ?_
  rintro e w8 hnr
  rcases hnr with ⟨tw8,htw8,hiw8,aw8,nw8,Sw8,rfl,hk,hS,hP,hT⟩ | ⟨hc,rfl,hT⟩
  rotate_left
  ·go_wp2_with fail
   exact ⟨rfl,.thr hc ⟨rfl,hT⟩ (HS7.out).T (stk_must E [59] s4)⟩
  have HS8:=Lib.hid (HS7.out.callT hk hS hP hT)
  have HAw8:=Lib.hid (And.intro htw8 hiw8)
  clear hk hS hP hT htw8 hiw8
  have HMS:=Lib.hid (fun W hW=>must_any p v E tw8 [59] W hW)
  rw [← Al.must HAw8.out.1] at HMS
  clear HJ HS7
  obtain ⟨x0,x1,x2,x3,x4,xf0,xf1,xf2,xf3,xf4,xl⟩:=HS8.out.c5 0 rfl
  go_upto_region 21 with fail
  have HSd:=Lib.hid (SW.buildAt [_] ((HS8.out.setL 0 rfl 3 (.slice (some ⟨w8.heap.size,0,none⟩) 1 1))) [y] rfl (by simp) w8.heap.size (by simp) #[.int .i64 y.kind,.string ⟨y.text.toArray⟩,.float .f64 y.num,.slice aw8 y.kids.length nw8,.int .i64 y.at'] rfl 1 rfl)
  generalize (World.alloc (w8.setCell _ _) _) = w9 at HSd ⊢
  clear HS8
  clear x0 x1 x2 x3 x4 xf0 xf1 xf2 xf3 xf4 xl
  go_wp2_with fail
  refine (HMS.out _ HSd.out.P).mono ?_
  rintro e w10 ⟨hok,hbad⟩
  rcases Classical.em ((must E [59] s4).code = 0) with hc | hc
  rotate_left
  ·obtain ⟨rfl,hT⟩:=hbad hc
   go_wp2_with fail
   exact ⟨rfl,.thr hc ⟨rfl,hT⟩ (HSd.out).T (Stk.refl _)⟩
  obtain ⟨rfl,hP,hT⟩:=hok hc
  have HS9:=Lib.hid (HSd.out.call hP hT)
  clear hP hT hok hbad hc
  clear HMS HSd
  obtain ⟨y0,y1,y2,y3,y4,yf0,yf1,yf2,yf3,yf4,yl⟩:=HS9.out.c5 0 rfl
  obtain ⟨r0,r1,r2,r3,r4,rf0,rf1,rf2,rf3,rf4,rl⟩:=HS9.out.c5 1 rfl
  go_wp2_with fail
  have HSH:=Lib.hid (HS9.out.set5 1 rfl (.int .i64 9) (.string ⟨u1.toArray⟩) (.float .f64 0) (.slice (some ⟨w8.heap.size,0,none⟩) 1 1) (.int .i64 a))
  clear HS9
  generalize (((((w10.setCell _ _).setCell _ _).setCell _ _).setCell _ _).setCell _ _) = wf at HSH ⊢
  obtain ⟨z0,z1,z2,z3,z4,zf0,zf1,zf2,zf3,zf4,zl⟩:=HSH.out.c5 1 rfl
  refine bodyPost_ret (v:=.agg #[.int .i64 9,.string ⟨u1.toArray⟩,.float .f64 0,.slice (some ⟨w8.heap.size,0,none⟩) 1 1,.int .i64 a]) (by simp [results,Tryz.results80,go_sem,z0,z1,z2,z3,z4]) rfl ?_
  have hp2:(pName E (inc s)).1.1 = u1:=HP2.out
  rw [hp2]
  exact .ok (.inl rfl) (by
   have h1:(must E [61] (inc (inc s))).i < tw8.i:=HAw8.out.2
   have h2:s.i + 2 ≤ (must E [61] (inc (inc s))).i:=must_i (inc (inc s))
   have:=must_al_i (g := [59]) HAw8.out.1
   omega) (HSH.out.node (List.mem_cons_self ..) (.mk 9 u1 0 [y] a) rfl)
theorem tree_at {W:World} (b:Nat) (xs:List Nd) (ks:List Tr) (hb:W.heap[b]? = some (.cells (rowC xs (ks.map Tr.v)).toArray 61 (0,0))) (hx:xs.map Nd.kids = ks.map Tr.ks) (hk:∀ k ∈ ks,k.ok W) (hd:∀ k ∈ ks,b ∉ k.S) (hl:xs.length ≤ 100000) :
  (Tr.mk xs (.slice (some ⟨b,0,none⟩) xs.length xs.length) (b :: (ks.map Tr.S).flatten)).ok W:=by
 have hlen:xs.length = ks.length:=by simpa using congrArg List.length hx
 obtain ⟨d,hdp⟩:=depth_all ks hk
 refine ⟨d,ks.map Tr.v,ks.map Tr.S,by simp [hlen],by simp [hlen],⟨rowC_len _ _ (by simp [hlen]),.inr ⟨b,xs.length,_,rfl,Nat.zero_le _,hb,Nat.le_refl _,by unfold maxLen;omega,?_,?_⟩⟩,by simp [Value.ownBlock],fun g hg hm => ?_,fun i x c s hx' hc hs => ?_⟩
 ·simp [rowC_len _ _ (show (ks.map Tr.v).length = xs.length by simp [hlen])]
 ·simp only []
  rw [List.take_of_length_le]
  rw [rowC_len _ _ (by simp [hlen])]
  exact Nat.le_refl _
 ·have:g = b:=by simpa [Value.ownBlock] using hg
  subst this
  obtain ⟨S,hS,hg⟩:=List.mem_flatten.1 hm
  obtain ⟨k,hk',rfl⟩:=List.mem_map.1 hS
  exact hd k hk' hg
 ·have hx':xs[i]? = some x:=hx'
  have hi:i < ks.length:=by have:=(List.getElem?_eq_some_iff.1 hx').1;omega
  have e1:ks[i]? = some ks[i]:=List.getElem?_eq_getElem hi
  rw [List.getElem?_map,e1] at hc hs
  simp at hc hs
  have e2:(xs.map Nd.kids)[i]? = some x.kids:=by rw [List.getElem?_map,hx'];rfl
  rw [hx,List.getElem?_map,e1] at e2
  simp at e2
  rw [← e2,← hc,← hs]
  exact hdp _ (List.getElem_mem hi)
theorem SW.rowL {w W:World} {p:Nat} {v:Value} {E:PE} {s:PS} {L:List (Nat × Obj)} {b:Nat} {K':List Tr} (ks:List Tr) (xs:List Nd) (R:Array Value) (h:SW w W p v E s ((b,.cells R 61 (0,0)) :: L) (ks ++ K')) (hR:R = (rowC xs (ks.map Tr.v)).toArray) (hx:xs.map Nd.kids = ks.map Tr.ks) (hl:xs.length ≤ 100000) (n:Nat) (hn:n = xs.length) :
  SW w W p v E s L (⟨xs,.slice (some ⟨b,0,none⟩) n n,b :: (ks.map Tr.S).flatten⟩ :: K'):=by
 subst hR hn
 obtain ⟨hbl,hbo⟩:=h.loc _ (List.mem_cons_self ..)
 have hdb:∀ k ∈ ks ++ K',b ∉ k.S:=fun k hk=>h.dis _ (List.mem_cons_self ..) k hk
 have ht:=tree_at b xs ks hbo hx (fun k hk=>(h.trees k (List.mem_append_left _ hk)).1) (fun k hk=>hdb k (List.mem_append_left _ hk)) hl
 have hnd:=List.pairwise_cons.1 h.ndl
 refine ⟨h.P,h.T,h.plt,h.one,h.own,fun l hl=>h.loc l (List.mem_cons_of_mem _ hl),fun k hk => ?_,hnd.2,fun l hl k hk => ?_,.cons (fun k hk x hx' hx2 => ?_) (List.pairwise_append.1 h.ndk).2.1⟩
 ·rcases List.mem_cons.1 hk with rfl | hk
  ·refine ⟨ht,fun g hg => ?_⟩
   rcases List.mem_cons.1 hg with rfl | hg
   ·exact hbl
   ·obtain ⟨S,hS,hg⟩:=List.mem_flatten.1 hg
    obtain ⟨k,hk',rfl⟩:=List.mem_map.1 hS
    exact (h.trees k (List.mem_append_left _ hk')).2 g hg
  ·exact h.trees k (List.mem_append_right _ hk)
 ·rcases List.mem_cons.1 hk with rfl | hk
  ·intro hm
   rcases List.mem_cons.1 hm with hm | hm
   ·exact hnd.1 l hl hm.symm
   ·obtain ⟨S,hS,hg⟩:=List.mem_flatten.1 hm
    obtain ⟨k,hk',rfl⟩:=List.mem_map.1 hS
    exact h.dis l (List.mem_cons_of_mem _ hl) k (List.mem_append_left _ hk') hg
  ·exact h.dis l (List.mem_cons_of_mem _ hl) k (List.mem_append_right _ hk)
 ·rcases List.mem_cons.1 hx' with rfl | hx'
  ·exact hdb k (List.mem_append_right _ hk) hx2
  ·obtain ⟨S,hS,hg⟩:=List.mem_flatten.1 hx'
   obtain ⟨q,hq,rfl⟩:=List.mem_map.1 hS
   exact (List.pairwise_append.1 h.ndk).2.2 q hq k hk x hg hx2
def wElse2:List UInt8 := [101,108,115,101]
def elseP (E:PE) (f:Nat) (y z:Nd) (a:Int) (s5:PS):Option (Nd × PS):=
 if isW E wElse2 s5 then (match run E f .block (inc (sT E s5)) with
  | some ([o],s6)=>some (.mk 10 [] 0 [y,z,o] a,s6)
  | _=>none)
 else some (.mk 10 [] 0 [y,z,.mk 0 [] 0 [] a] a,sT E s5)
theorem elseP_stk {E:PE} {f:Nat} {y z:Nd} {a:Int} {s5 s2:PS} {x:Nd} (h:elseP E f y z a s5 = some (x,s2)):Stk s5 s2:=by
 unfold elseP at h
 split at h
 ·cases hr:run E f .block (inc (sT E s5)) with
  | none=>rw [hr] at h;cases h
  | some r =>
   obtain ⟨os,s6⟩:=r
   rw [hr] at h
   match os,h with
   | [],h=>cases h
   | _ :: _ :: _,h=>cases h
   | [o],h =>
    cases h
    exact ((stk_sT E s5).trans (stk_inc _)).trans (run_stk E _ _ _ _ _ hr)
 ·cases h;exact stk_sT E s5
theorem elseP_al {E:PE} {f:Nat} {y z:Nd} {a:Int} {t s5:PS} (h:Al E t s5):elseP E f y z a s5 = elseP E f y z a t:=by
 unfold elseP
 rw [h.isW,h.sT]
set_option maxHeartbeats 4000000 in
theorem stmt_if {p:Nat} {v:Value} {E:PE} {f:Nat} (J:∀ k,k ≤ f → QJobs p v E k) (s:PS) (x:Nd) (s2:PS) (W:World) (hf:16 * ms E s + rank .stmt ≤ f + 1) (hr:run E (f + 1) .stmt s = some ([x],s2)) (h:PAt W p v E s) (h1:isW E wSet s = false) (h2:isW E wIf s = true):Calls Tryz.prog 80 #[PP p] W (NodeR p v E s.i s2 x W):=by
 have HS:=Lib.hid (SW.start h)
 have HN:=Lib.hid (fun W h=>now_any p v E s W h)
 have HW1:=Lib.hid (fun W hW=>word_any p v E s wSet false W hW h1)
 have HW2:=Lib.hid (fun W hW=>(word_any p v E s wIf true W hW h2:Calls Tryz.prog _ _ W (StpR p v E (inc s) (.bool true) W)))
 obtain ⟨hi,hsT,htk⟩:=h.moreW h2
 have hk:=isW_kind h2
 rw [htk] at hk
 have hmi:=ms_inc (E:=E) (s:=s) (by rw [htk,hk.1];decide)
 rw [hsT] at hmi
 simp only [rank] at hf
 rw [run,if_neg (by have:isW E [115,101,116] s = false:=h1;rw [this];decide),if_pos (by exact h2),hsT,htk] at hr
 cases hra:run E f (.bin 0) (inc s) with
 | none=>rw [hra] at hr;cases hr
 | some r =>
 obtain ⟨ys,s4⟩:=r
 rw [hra] at hr
 match ys,hr with
 | [],hr=>cases hr
 | _ :: _ :: _,hr=>cases hr
 | [y],hr =>
 simp only at hr
 cases hrb:run E f .block s4 with
 | none=>rw [hrb] at hr;cases hr
 | some r =>
 obtain ⟨zs,s5⟩:=r
 rw [hrb] at hr
 match zs,hr with
 | [],hr=>cases hr
 | _ :: _ :: _,hr=>cases hr
 | [z],hr =>
 simp only at hr
 have hel:elseP E f y z (pn E s).at' s5 = some (x,s2):=by
  unfold elseP
  by_cases he:isW E wElse2 s5 = true
  ·rw [if_pos he]
   rw [if_pos (by exact he)] at hr
   cases hrc:run E f .block (inc (sT E s5)) with
   | none=>rw [hrc] at hr;cases hr
   | some r =>
    obtain ⟨os,s6⟩:=r
    rw [hrc] at hr
    match os,hr with
    | [],hr=>cases hr
    | _ :: _ :: _,hr=>cases hr
    | [o],hr=>cases hr;rfl
  ·rw [if_neg he]
   rw [if_neg (by exact he)] at hr
   cases hr;rfl
 clear hr
 have HJ:=Lib.hid (fun W hW=>(J f (Nat.le_refl _)).expr (inc s) y s4 W (by simp only [rank];omega) hra hW)
 have HJJ:=Lib.hid (fun t q s6 W hm hb hW=>(J f (Nat.le_refl _)).blocked t q s6 W hm hb hW)
 have HM:Hid (16 * ms E (inc s) + 14 ≤ f ∧ (inc s).code = 0 ∧ run E f .block s4 = some ([z],s5)):=⟨by omega,h.c0,hrb⟩
 have HSK:Hid (Stk s4 s2 ∧ Stk s5 s2):=⟨(run_stk E _ _ _ _ _ hrb).trans (elseP_stk hel),elseP_stk hel⟩
 have HEL:=Lib.hid hel
 clear hf h J hra hmi hsT htk h1 h2 hrb hel
 generalize pn E s = t at *
 obtain ⟨kd,u,nm,a⟩:=t
 go_enter Tryz.func80,Tryz.ntmps80
 go_upto_region 1 with fail
 have HS0:=Lib.hid (HS.out.alloc (ndO zero (.slice none 0 0)))
 clear HS
 change Code.wp _ _ _ _ (W.alloc (ndO zero (.slice none 0 0)))
 generalize W.alloc (ndO zero (.slice none 0 0)) = w0 at *
 generalize W.heap.size = br at *
 go_wp2_with fail
 refine (HN.out _ HS0.out.P).mono ?_;rintro e w1 ⟨rfl,hb1⟩
 have HS3:=Lib.hid ((HS0.out.call (HS0.out.P.below hb1) (Turned.of_below hb1)).alloc (ksO 0 [] none 0 0 a))
 clear hb1 HN HS0
 go_upto_region 3 with fail
 change Code.wp _ _ _ _ (w1.alloc (ksO 0 [] none 0 0 a))
 generalize w1.alloc (ksO 0 [] none 0 0 a) = w3 at *
 generalize w1.heap.size = bx at *
 go_wp2_with fail
 refine (HW1.out _ HS3.out.P).mono ?_;rintro e wa ⟨rfl,hP,hT⟩
 have HSa:=Lib.hid (HS3.out.call hP hT)
 clear hP hT HW1 HS3
 go_wp2_with fail
 refine (HW2.out _ HSa.out.P).mono ?_;rintro e wc ⟨rfl,hP,hT⟩
 have HSc:=Lib.hid (HSa.out.call hP hT)
 clear hP hT HW2 HSa
 obtain ⟨x0,x1,x2,x3,x4,xf0,xf1,xf2,xf3,xf4,xl⟩:=HSc.out.c5 0 rfl
 go_upto_region 9 with fail
 have HS5:=Lib.hid (HSc.out.setL 0 rfl 0 (.int .i64 10))
 generalize (wc.setCell _ _) = wd at HS5 ⊢
 clear HSc
 clear x0 x1 x2 x3 x4 xf0 xf1 xf2 xf3 xf4 xl
 obtain ⟨x0,x1,x2,x3,x4,xf0,xf1,xf2,xf3,xf4,xl⟩:=HS5.out.c5 0 rfl
 go_wp2_with fail
 go_region_law
  (first
   | (go_simp
      go_at_call 109
      refine (HJ2.out _ (by first | exact HS6.out.P | exact HS6.out.drew.P)).mono ?_
      rintro e w7 hnr
      rcases hnr with ⟨t7,ht,hi,a7,n7,S7,rfl,hk,hS,hP,hT⟩ | ⟨hc,rfl,hT⟩
      rotate_left
      · go_wp2_with fail
        exact ⟨rfl,.thr hc ⟨rfl,hT⟩ HS6.out.T HSK.out.2⟩
      have HS7:=Lib.hid (HS6.out.callT hk hS hP hT)
      have HA7:=Lib.hid (And.intro ht hi)
      clear hk hS hP hT ht hi
      obtain ⟨r0,r1,r2,r3,r4,rf0,rf1,rf2,rf3,rf4,rl⟩:=HS7.out.c5 0 rfl)
   | (go_simp
      go_at_call 108
      refine (HJ.out _ (by first | exact HS5.out.P | exact HS5.out.drew.P)).mono ?_
      rintro e w6 hnr
      rcases hnr with ⟨t6,ht,hi,a6,n6,S6,rfl,hk,hS,hP,hT⟩ | ⟨hc,rfl,hT⟩
      rotate_left
      · go_wp2_with fail
        exact ⟨rfl,.thr hc ⟨rfl,hT⟩ HS5.out.drew.T HSK.out.1⟩
      have HS6:=Lib.hid (HS5.out.drew.callT hk hS hP hT)
      have HA6:=Lib.hid (And.intro ht hi)
      clear hk hS hP hT ht hi
      have HJ2:=Lib.hid (fun W hW=>HJJ.out t6 z s5 W (by
        have:=HS6.out.P.ms (s:=inc s) HM.out.2.1 HA6.out.2
        have:=HM.out.1
        simp only [rank]
        omega) (by rw [← Al.run HA6.out.1 _ _ (fun _ h=>by cases h)];exact HM.out.2.2) hW)
      obtain ⟨g0,g1,g2,g3,g4,gf0,gf1,gf2,gf3,gf4,gl⟩:=HS6.out.c5 0 rfl))
 all_goals
  have HS8:=Lib.hid ((HS7.out.setL 0 rfl 3 (.slice (some ⟨w7.heap.size,0,none⟩) 3 3)).allocAt (.cells #[.int .i64 y.kind,.string ⟨y.text.toArray⟩,.float .f64 y.num,.slice a6 y.kids.length n6,.int .i64 y.at',.int .i64 z.kind,.string ⟨z.text.toArray⟩,.float .f64 z.num,.slice a7 z.kids.length n7,.int .i64 z.at',.int .i64 0,.string ⟨#[]⟩,.float .f64 0,.slice none 0 0,.int .i64 a] 61 (0,0)) w7.heap.size (by simp))
  generalize (World.alloc (w7.setCell _ _) _) = w8 at HS8 ⊢
  clear HS7 HS6 HS5 HJ HJ2
  generalize w7.heap.size = rb at HS8 ⊢
  obtain ⟨b,hb⟩:∃ b,isW E wElse2 t7 = b:=⟨_,rfl⟩
  have HWE:=Lib.hid (fun W hW=>word_any p v E t7 wElse2 b W hW hb)
  have hel:=HEL.out
  rw [elseP_al HA7.out.1] at hel
  have HI:Hid (s.i + 2 < t7.i):=by
   have h1:s.i + 1 < t6.i:=HA6.out.2
   have h2:=HA7.out.2
   unfold Hid
   omega
  cases b with
  | false =>
   unfold elseP at hel
   rw [if_neg (by rw [hb];decide)] at hel
   cases hel
   clear hb HEL HJJ HSK
   go_wp2_with fail
   refine (HWE.out _ HS8.out.P).mono ?_;rintro e w9 ⟨rfl,hP,hT⟩
   have HS9:=Lib.hid (HS8.out.call hP hT)
   clear hP hT HWE HS8
   have HSr:=Lib.hid (SW.rowL [_,_,_] [y,z,.mk 0 [] 0 [] a] _ (HS9.out.addNil.rev3) rfl rfl (by simp) 3 rfl)
   clear HS9
   obtain ⟨y0,y1,y2,y3,y4,yf0,yf1,yf2,yf3,yf4,yl⟩:=HSr.out.c5 0 rfl
   obtain ⟨r0,r1,r2,r3,r4,rf0,rf1,rf2,rf3,rf4,rl⟩:=HSr.out.c5 1 rfl
   go_wp2_with fail
   have HSH:=Lib.hid (HSr.out.set5 1 rfl (.int .i64 10) (.string ⟨#[]⟩) (.float .f64 0) (.slice (some ⟨rb,0,none⟩) 3 3) (.int .i64 a))
   clear HSr
   generalize (((((w9.setCell _ _).setCell _ _).setCell _ _).setCell _ _).setCell _ _) = wf at HSH ⊢
   obtain ⟨z0,z1,z2,z3,z4,zf0,zf1,zf2,zf3,zf4,zl⟩:=HSH.out.c5 1 rfl
   refine bodyPost_ret (v:=.agg #[.int .i64 10,.string ⟨#[]⟩,.float .f64 0,.slice (some ⟨rb,0,none⟩) 3 3,.int .i64 a]) (by simp [results,Tryz.results80,go_sem,z0,z1,z2,z3,z4]) rfl ?_
   exact .ok (.inr rfl) (by have:=HI.out;omega) (HSH.out.node (List.mem_cons_self ..) (.mk 10 [] 0 [y,z,.mk 0 [] 0 [] a] a) rfl)
  | true =>
   have hsT7:=(HS8.out.P.moreW hb).2.1
   unfold elseP at hel
   rw [if_pos hb,hsT7] at hel
   cases hrc:run E f .block (inc t7) with
   | none=>rw [hrc] at hel;cases hel
   | some r =>
   obtain ⟨os,s6⟩:=r
   rw [hrc] at hel
   match os,hel with
   | [],hel=>cases hel
   | _ :: _ :: _,hel=>cases hel
   | [o],hel =>
   simp only at hel
   cases hel
   have HWT:Hid (∀ W,PAt W p v E t7 → Calls Tryz.prog 97 #[PP p,.string ⟨wElse2.toArray⟩] W (StpR p v E (inc t7) (.bool true) W)):=HWE.out
   have HJ3:=Lib.hid (fun W hW=>HJJ.out (inc t7) o s2 W (by
    have h1:ms E t7 + 1 ≤ ms E (inc s):=HS8.out.P.ms (s:=inc s) HM.out.2.1 (by have:=HI.out;show s.i + 1 < t7.i;omega)
    have h2:ms E (inc t7) ≤ ms E t7:=ms_i (E:=E) (s:=t7) (t:=inc t7) rfl (Nat.le_succ _)
    have:=HM.out.1
    simp only [rank]
    omega) hrc hW)
   clear hb HEL HJJ HSK hsT7 hrc HWE
   go_wp2_with fail
   refine (HWT.out _ HS8.out.P).mono ?_;rintro e w9 ⟨rfl,hP,hT⟩
   have HS9:=Lib.hid (HS8.out.call hP hT)
   clear hP hT HWT HS8
   obtain ⟨x0,x1,x2,x3,x4,xf0,xf1,xf2,xf3,xf4,xl⟩:=HS9.out.c5 1 rfl
   go_wp2_with fail
   go_region_law
    (go_simp
     go_at_call 109
     refine (HJ3.out _ (by first | exact HS9.out.P | exact HS9.out.drew.P)).mono ?_
     rintro e w10 hnr
     rcases hnr with ⟨t10,ht,hi,a10,n10,S10,rfl,hk,hS,hP,hT⟩ | ⟨hc,rfl,hT⟩
     rotate_left
     · go_wp2_with fail
       exact ⟨rfl,.thr hc ⟨rfl,hT⟩ HS9.out.drew.T (Stk.refl _)⟩
     have HS10:=Lib.hid (HS9.out.drew.callT hk hS hP hT)
     have HA10:=Lib.hid (And.intro ht hi)
     clear hk hS hP hT ht hi
     have k0:w10.cell? ⟨rb,10,none⟩ = some (.int .i64 0):=by rw [HS10.out.cell 0 rfl 10];rfl
     have k1:w10.cell? ⟨rb,11,none⟩ = some (.string ⟨#[]⟩):=by rw [HS10.out.cell 0 rfl 11];rfl
     have k2:w10.cell? ⟨rb,12,none⟩ = some (.float .f64 0):=by rw [HS10.out.cell 0 rfl 12];rfl
     have k3:w10.cell? ⟨rb,13,none⟩ = some (.slice none 0 0):=by rw [HS10.out.cell 0 rfl 13];rfl
     have k4:w10.cell? ⟨rb,14,none⟩ = some (.int .i64 a):=by rw [HS10.out.cell 0 rfl 14];rfl
     have kf0:=HS10.out.free 0 rfl 10
     have kf1:=HS10.out.free 0 rfl 11
     have kf2:=HS10.out.free 0 rfl 12
     have kf3:=HS10.out.free 0 rfl 13
     have kf4:=HS10.out.free 0 rfl 14
     obtain ⟨g0,g1,g2,g3,g4,gf0,gf1,gf2,gf3,gf4,gl⟩:=HS10.out.c5 1 rfl)
   all_goals
    have HSs:=Lib.hid (((((HS10.out.setL 0 rfl 10 (.int .i64 o.kind)).setL 0 rfl 11 (.string ⟨o.text.toArray⟩)).setL 0 rfl 12 (.float .f64 o.num)).setL 0 rfl 13 (.slice a10 o.kids.length n10)).setL 0 rfl 14 (.int .i64 o.at'))
    generalize (((((w10.setCell _ _).setCell _ _).setCell _ _).setCell _ _).setCell _ _) = w11 at HSs ⊢
    have HSr:=Lib.hid (SW.rowL [_,_,_] [y,z,o] _ HSs.out.rev3 rfl rfl (by simp) 3 rfl)
    clear HSs HS10 HS9 HJ3
    clear k0 k1 k2 k3 k4 kf0 kf1 kf2 kf3 kf4 g0 g1 g2 g3 g4 gf0 gf1 gf2 gf3 gf4 gl
    clear x0 x1 x2 x3 x4 xf0 xf1 xf2 xf3 xf4 xl
    obtain ⟨y0,y1,y2,y3,y4,yf0,yf1,yf2,yf3,yf4,yl⟩:=HSr.out.c5 0 rfl
    obtain ⟨r0,r1,r2,r3,r4,rf0,rf1,rf2,rf3,rf4,rl⟩:=HSr.out.c5 1 rfl
    go_wp2_with fail
    have HSH:=Lib.hid (HSr.out.set5 1 rfl (.int .i64 10) (.string ⟨#[]⟩) (.float .f64 0) (.slice (some ⟨rb,0,none⟩) 3 3) (.int .i64 a))
    clear HSr
    generalize (((((w11.setCell _ _).setCell _ _).setCell _ _).setCell _ _).setCell _ _) = wf at HSH ⊢
    obtain ⟨z0,z1,z2,z3,z4,zf0,zf1,zf2,zf3,zf4,zl⟩:=HSH.out.c5 1 rfl
    refine bodyPost_ret (v:=.agg #[.int .i64 10,.string ⟨#[]⟩,.float .f64 0,.slice (some ⟨rb,0,none⟩) 3 3,.int .i64 a]) (by simp [results,Tryz.results80,go_sem,z0,z1,z2,z3,z4]) rfl ?_
    exact .ok HA10.out.1 (by have h1:t7.i + 1 < t10.i:=HA10.out.2;have:=HI.out;omega) (HSH.out.node (List.mem_cons_self ..) (.mk 10 [] 0 [y,z,o] a) rfl)
end Go.Proofs.YtmfpmandkhiknaaGreatDoor.qar
namespace Go.Proofs.YtmfpmandkhiknaaGreatDoor.qar
open par
open Go.RowKit
open heap
open lex (Tk TRow TkAt run_store_float add0)
theorem stmtJ {p:Nat} {v:Value} {E:PE} {f:Nat} (J:∀ k,k ≤ f → QJobs p v E k) (s:PS) (x:Nd) (s2:PS) (W:World) (hf:16 * ms E s + rank .stmt ≤ f + 1) (hr:run E (f + 1) .stmt s = some ([x],s2)) (h:PAt W p v E s):Calls Tryz.prog 80 #[PP p] W (NodeR p v E s.i s2 x W):=by
 cases h1:isW E wSet s with
 | true=>exact stmt_set J s x s2 W hf hr h h1
 | false =>
  cases h2:isW E wIf s with
  | true=>exact stmt_if J s x s2 W hf hr h h1 h2
  | false =>
   cases h3:isW E wWhile s with
   | true=>exact stmt_while J s x s2 W hf hr h h1 h2 h3
   | false =>
    cases h4:isW E wDo s with
    | true=>exact stmt_do J s x s2 W hf hr h h1 h2 h3 h4
    | false =>
     cases h5:isW E wFail s with
     | true=>exact stmt_fail J s x s2 W hf hr h h1 h2 h3 h4 h5
     | false=>exact stmt_bad s x s2 W hf hr h h1 h2 h3 h4 h5
theorem qjobs_all (p:Nat) (v:Value) (E:PE) (f:Nat):QJobs p v E f:=by
 induction f using Nat.strongRecOn with
 | ind f ih =>
  cases f with
  | zero =>
   refine ⟨?_,?_,?_,?_,?_,?_,?_,?_,?_⟩ <;> (intro s x s2 W hf;exfalso;simp only [rank] at hf;omega)
  | succ f =>
   have J:∀ k,k ≤ f → QJobs p v E k:=fun k hk=>ih k (by omega)
   refine ⟨?_,?_,?_,?_,?_,?_,?_,?_,?_⟩
   ·exact fun s x s2 W hf hr h=>exprJ J s x s2 W hf hr h
   ·exact fun s x s2 W hf hr h=>join_any p v E s.i s s2 x W h fun W2 h2=>rowJ J s x s2 W2 hf hr h2
   ·exact fun s x s2 W hf hr h=>sum_any p v E s.i s s2 x W h fun W2 h2=>rowS J s x s2 W2 hf hr h2
   ·exact fun s x s2 W hf hr h=>term_any p v E s.i s s2 x W h fun W2 h2=>rowT J s x s2 W2 hf hr h2
   ·intro s x s2 W hf hr h
    rw [run,if_pos rfl] at hr
    simp only [rank] at hf
    exact (J f (Nat.le_refl _)).un s x s2 W (by simp only [rank];omega) hr h
   ·exact fun s x s2 W hf hr h=>unaryJ J s x s2 W hf hr h
   ·exact fun s x s2 W hf hr h=>primJ J s x s2 W hf hr h
   ·exact fun s x s2 W hf hr h=>blockedJ J s x s2 W hf hr h
   ·exact fun s x s2 W hf hr h=>stmtJ J s x s2 W hf hr h
end Go.Proofs.YtmfpmandkhiknaaGreatDoor.qar
