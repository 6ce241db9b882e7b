/-
  Proved: what step of the program's parser leaves at copy. Conditions: as each theorem says.
  Proved: what step of the program's parser leaves. Conditions: as the theorem says.
  Proved: plain facts on the document's steps, as the program's parser meets them. Conditions: as each theorem says.
  Proved: what stage of the program's parser leaves. Conditions: as each theorem says.
-/
import Derived.Test.YtmfpmandkhiknaaGreatDoorPu18
set_option linter.unusedVariables false
set_option linter.unusedSimpArgs false
namespace Go.Proofs.YtmfpmandkhiknaaGreatDoor.qar
open par
open Go.RowKit
open heap
open lex (Tk TRow TkAt run_store_float add0)
set_option maxRecDepth 100000
attribute [local go_sem] run_store_float field_tok0 field_tok1 field_tok3
theorem stk_named (E:PE) (g:List UInt8) (a:Int) (s:PS):Stk s (named E g a s).2:=by
 unfold named
 split
 ·exact ((stk_sT E s).trans (stk_inc _)).trans (stk_pName E _)
 ·exact stk_sT E s
set_option maxHeartbeats 4000000 in
theorem step_copy {p:Nat} {v:Value} {E:PE} {f:Nat} (s:PS) (x:Nd) (s2:PS) (W:World) (hr:stepR E f s = some (x,s2)) (h:PAt W p v E s) (h1:isW E wCopy s = true):Calls Tryz.prog 103 #[PP p] W (NodeR p v E s.i s2 x W):=by
 have HS:=Lib.hid (SW.start h)
 have HN:=Lib.hid (fun W h=>now_any p v E s W h)
 have HW1:=Lib.hid (fun W hW=>(word_any p v E s wCopy true W hW h1:Calls Tryz.prog _ _ W (StpR p v E (inc s) (.bool true) W)))
 obtain ⟨hi,hsT,htk⟩:=h.moreW h1
 have hk:=isW_kind h1
 rw [htk] at hk
 have hc:(inc s).code = 0:=h.c0
 rw [stepR,if_pos h1,hsT,htk] at hr
 cases hr
 obtain ⟨b1,hb1⟩:∃ b,((pn E (inc s)).kind == 3) = b:=⟨_,rfl⟩
 have hpN:=pText_pn (E:=E) (s:=inc s) hc hb1
 have HKN:=Lib.hid (fun s2 (h2:if b1 = true then s2 = inc (inc s) else s2 = wrong E (inc s)) W (hW:PAt W p v E (inc s))=>kindT_any p v E (inc s) W hW s2 b1 hb1 h2)
 obtain ⟨b2,hb2⟩:∃ b,((pn E (inc (inc s))).kind == 3) = b:=⟨_,rfl⟩
 have hpN2:=pText_pn (E:=E) (s:=inc (inc s)) hc hb2
 have HKN2:=Lib.hid (fun s2 (h2:if b2 = true then s2 = inc (inc (inc s)) else s2 = wrong E (inc (inc s))) W (hW:PAt W p v E (inc (inc s)))=>kindT_any p v E (inc (inc s)) W hW s2 b2 hb2 h2)
 have HP:=Lib.hid hpN
 have HPP:=Lib.hid hpN2
 have HC:=Lib.hid hc
 clear h hk hsT htk hc hb1 hpN h1 hb2 hpN2
 generalize pn E s = t at *
 obtain ⟨kd,u,nm,a⟩:=t
 simp only at HN ⊢
 obtain ⟨nx,hnx⟩:∃ nx,named E wFrom a (pText E (pText E (inc s)).2).2 = nx:=⟨_,rfl⟩
 have HSK:Hid (Stk (pText E (inc s)).2 (must E [59] nx.2) ∧ Stk (pText E (pText E (inc s)).2).2 (must E [59] nx.2)):=by
  have e1:Stk (pText E (pText E (inc s)).2).2 (must E [59] nx.2):=by rw [← hnx];exact (stk_named E _ _ _).trans (stk_must E _ _)
  exact ⟨(stk_pText E _).trans e1,e1⟩
 rw [hnx]
 have HNX:=Lib.hid hnx
 clear hnx
 obtain ⟨q1,hq1⟩:∃ q,pText E (inc s) = q:=⟨_,rfl⟩
 have HQ1:=Lib.hid hq1
 rw [hq1]
 rw [hq1] at HSK HNX HP
 clear hq1
 obtain ⟨q2,hq2⟩:∃ q,pText E q1.2 = q:=⟨_,rfl⟩
 have HQ2:=Lib.hid hq2
 rw [hq2]
 rw [hq2] at HSK HNX
 clear hq2
 go_enter Tryz.func103,Tryz.ntmps103
 go_upto_region 1 with fail
 have HS0:=Lib.hid (HS.out.alloc (ndO zero (.slice none 0 0)))
 clear HS
 change Code.wp _ _ _ _ (W.alloc (ndO zero (.slice none 0 0)))
 generalize W.alloc (ndO zero (.slice none 0 0)) = w0 at *
 generalize W.heap.size = br at *
 go_wp2_with fail
 refine (HN.out _ HS0.out.P).mono ?_;rintro e w1 ⟨rfl,hb1⟩
 have HS3:=Lib.hid ((HS0.out.call (HS0.out.P.below hb1) (Turned.of_below hb1)).alloc (ksO 0 [] none 0 0 a))
 clear hb1 HN HS0
 go_upto_region 3 with fail
 change Code.wp _ _ _ _ (w1.alloc (ksO 0 [] none 0 0 a))
 generalize w1.alloc (ksO 0 [] none 0 0 a) = w3 at *
 generalize w1.heap.size = bx at *
 go_wp2_with fail
 refine (HW1.out _ HS3.out.P).mono ?_;rintro e wa ⟨rfl,hP,hT⟩
 have HSa:=Lib.hid (HS3.out.call hP hT)
 clear hP hT HW1 HS3
 obtain ⟨x0,x1,x2,x3,x4,xf0,xf1,xf2,xf3,xf4,xl⟩:=HSa.out.c5 0 rfl
 go_upto_region 5 with fail
 have HS4:=Lib.hid (HSa.out.setL 0 rfl 0 (.int .i64 3))
 generalize (wa.setCell _ _) = w4 at HS4 ⊢
 clear HSa
 clear x0 x1 x2 x3 x4 xf0 xf1 xf2 xf3 xf4 xl
 obtain ⟨x0,x1,x2,x3,x4,xf0,xf1,xf2,xf3,xf4,xl⟩:=HS4.out.c5 0 rfl
 go_wp2_with fail
 cases b1 with
 | false =>
  have hp:=HP.out
  rw [if_neg (by decide)] at hp
  have HSK2:Hid (Stk (wrong E (inc s)) (must E [59] nx.2)):=by rw [← hp];exact HSK.out.1
  clear hp HP HSK
  refine (HKN.out _ rfl _ HS4.out.P).mono ?_
  rintro e w5 ⟨-,hbad⟩
  obtain ⟨rfl,hT⟩:=hbad (wrong_code E _)
  go_wp2_with fail
  exact ⟨rfl,.thr (wrong_code E _) ⟨rfl,hT⟩ HS4.out.T HSK2.out⟩
 | true =>
  have hp:q1 = (((pn E (inc s)).text,(pn E (inc s)).at'),inc (inc s)):=by have:=HP.out;rw [if_pos rfl] at this;exact this
  subst hp
  refine (HKN.out _ rfl _ HS4.out.P).mono ?_
  rintro e w5 ⟨hok,-⟩
  obtain ⟨rfl,hP,hT⟩:=hok HC.out
  have HS5:=Lib.hid (HS4.out.call hP hT)
  clear hP hT hok HKN HS4 HP
  clear x0 x1 x2 x3 x4 xf0 xf1 xf2 xf3 xf4 xl
  obtain ⟨x0,x1,x2,x3,x4,xf0,xf1,xf2,xf3,xf4,xl⟩:=HS5.out.c5 0 rfl
  generalize pn E (inc s) = t1 at *
  obtain ⟨kd1,u1,nm1,a1⟩:=t1
  go_upto_region 6 with fail
  have HS6:=Lib.hid (HS5.out.setL 0 rfl 1 (.string ⟨u1.toArray⟩))
  generalize (w5.setCell _ _) = w6 at HS6 ⊢
  clear HS5
  clear x0 x1 x2 x3 x4 xf0 xf1 xf2 xf3 xf4 xl
  go_wp2_with fail
  cases b2 with
  | false =>
   have hp:=HPP.out
   rw [if_neg (by decide)] at hp
   have HSK2:Hid (Stk (wrong E (inc (inc s))) (must E [59] nx.2)):=by
    have h2:q2.2 = wrong E (inc (inc s)):=by rw [← HQ2.out];exact hp
    rw [← h2];exact HSK.out.2
   clear hp HPP HSK
   refine (HKN2.out _ rfl _ HS6.out.P).mono ?_
   rintro e w7 ⟨-,hbad⟩
   obtain ⟨rfl,hT⟩:=hbad (wrong_code E _)
   go_wp2_with fail
   exact ⟨rfl,.thr (wrong_code E _) ⟨rfl,hT⟩ HS6.out.T HSK2.out⟩
  | true =>
   have hp:q2 = (((pn E (inc (inc s))).text,(pn E (inc (inc s))).at'),inc (inc (inc s))):=by have:=HPP.out;rw [if_pos rfl] at this;rw [← HQ2.out];exact this
   subst hp
   refine (HKN2.out _ rfl _ HS6.out.P).mono ?_
   rintro e w7 ⟨hok,-⟩
   obtain ⟨rfl,hP,hT⟩:=hok HC.out
   have HS7:=Lib.hid ((HS6.out.call hP hT).alloc (tnO (pn E (inc (inc s)))))
   clear hP hT hok HKN2 HS6 HPP HQ2 HSK
   generalize pn E (inc (inc s)) = t2 at *
   go_upto_region 7 with fail
   change Code.wp _ _ _ _ (w7.alloc (tnO t2))
   generalize w7.alloc (tnO t2) = w8 at *
   generalize w7.heap.size = bt at *
   have HNM:=Lib.hid (fun W hW=>named_any (p:=p) (v:=v) (E:=E) wFrom a (inc (inc (inc s))) W hW)
   have hnx:named E wFrom a (inc (inc (inc s))) = nx:=HNX.out
   rw [hnx] at HNM
   clear HNX hnx
   obtain ⟨y,s9⟩:=nx
   obtain ⟨o0,o1,o2,o3,of0,of1,of2,of3,ol⟩:=HS7.out.c4 0 rfl
   obtain ⟨x0,x1,x2,x3,x4,xf0,xf1,xf2,xf3,xf4,xl⟩:=HS7.out.c5 1 rfl
   go_wp2_with fail
   go_region_law
    (go_simp
     go_at_call 100
     refine (HNM.out _ (by first | exact HS7.out.P | exact HS7.out.drew.P)).mono ?_
     rintro e w10 hnr
     rcases hnr with ⟨t10,ht,hi,a10,n10,S10,rfl,hk,hS,hP,hT⟩ | ⟨hc,rfl,hT⟩
     rotate_left
     · go_wp2_with fail
       exact ⟨rfl,.thr hc ⟨rfl,hT⟩ HS7.out.drew.T (stk_must E [59] s9)⟩
     have HS10:=Lib.hid (HS7.out.drew.callT hk hS hP hT)
     have HA10:=Lib.hid (And.intro ht hi)
     clear hk hS hP hT ht hi
     obtain ⟨g0,g1,g2,g3,gf0,gf1,gf2,gf3,gl⟩:=HS10.out.c4 0 rfl
     obtain ⟨r0,r1,r2,r3,r4,rf0,rf1,rf2,rf3,rf4,rl⟩:=HS10.out.c5 1 rfl)
   all_goals
    have HMS:=Lib.hid (fun W hW=>must_any p v E t10 [59] W hW)
    rw [← Al.must HA10.out.1] at HMS
    have HSd:=Lib.hid (SW.buildAt [_,_] (HS10.out.setL 1 rfl 3 (.slice (some ⟨w10.heap.size,0,none⟩) 2 2)).addNil [.mk 16 t2.text 0 [] t2.at',y] rfl (by simp) w10.heap.size (by simp) #[.int .i64 16,.string ⟨t2.text.toArray⟩,.float .f64 0,.slice none 0 0,.int .i64 t2.at',.int .i64 y.kind,.string ⟨y.text.toArray⟩,.float .f64 y.num,.slice a10 y.kids.length n10,.int .i64 y.at'] rfl 2 rfl)
    generalize (World.alloc (w10.setCell _ _) _) = w11 at HSd ⊢
    clear HS10 HS7 HNM
    clear o0 o1 o2 o3 of0 of1 of2 of3 ol
    clear x0 x1 x2 x3 x4 xf0 xf1 xf2 xf3 xf4 xl
    clear g0 g1 g2 g3 gf0 gf1 gf2 gf3 gl
    clear r0 r1 r2 r3 r4 rf0 rf1 rf2 rf3 rf4 rl
    go_wp2_with fail
    refine (HMS.out _ HSd.out.P).mono ?_
    rintro e w12 ⟨hok,hbad⟩
    rcases Classical.em ((must E [59] s9).code = 0) with hc | hc
    rotate_left
    ·obtain ⟨rfl,hT⟩:=hbad hc
     go_wp2_with fail
     exact ⟨rfl,.thr hc ⟨rfl,hT⟩ (HSd.out).T (Stk.refl _)⟩
    obtain ⟨rfl,hP,hT⟩:=hok hc
    have HS12:=Lib.hid (HSd.out.call hP hT)
    clear hP hT hok hbad hc
    clear HMS HSd
    obtain ⟨y0,y1,y2,y3,y4,yf0,yf1,yf2,yf3,yf4,yl⟩:=HS12.out.c5 1 rfl
    obtain ⟨r0,r1,r2,r3,r4,rf0,rf1,rf2,rf3,rf4,rl⟩:=HS12.out.c5 2 rfl
    go_wp2_with fail
    have HSH:=Lib.hid (HS12.out.set5 2 rfl (.int .i64 3) (.string ⟨u1.toArray⟩) (.float .f64 0) (.slice (some ⟨w10.heap.size,0,none⟩) 2 2) (.int .i64 a))
    clear HS12
    generalize (((((w12.setCell _ _).setCell _ _).setCell _ _).setCell _ _).setCell _ _) = wf at HSH ⊢
    obtain ⟨z0,z1,z2,z3,z4,zf0,zf1,zf2,zf3,zf4,zl⟩:=HSH.out.c5 2 rfl
    refine bodyPost_ret (v:=.agg #[.int .i64 3,.string ⟨u1.toArray⟩,.float .f64 0,.slice (some ⟨w10.heap.size,0,none⟩) 2 2,.int .i64 a]) (by simp [results,Tryz.results103,go_sem,z0,z1,z2,z3,z4]) rfl ?_
    exact .ok (.inl rfl) (by
     have h1:s.i + 3 ≤ t10.i:=HA10.out.2
     have:=must_al_i (g := [59]) HA10.out.1
     show s.i < (must E [59] s9).i
     omega) (HSH.out.node (List.mem_cons_self ..) (.mk 3 u1 0 [.mk 16 t2.text 0 [] t2.at',y] a) rfl)
end Go.Proofs.YtmfpmandkhiknaaGreatDoor.qar
namespace Go.Proofs.YtmfpmandkhiknaaGreatDoor.qar
open par
open Go.RowKit
open heap
open lex (Tk TRow TkAt run_store_float add0)
theorem stepJ {p:Nat} {v:Value} {E:PE} {f:Nat} (s:PS) (x:Nd) (s2:PS) (W:World) (hr:stepR E f s = some (x,s2)) (h:PAt W p v E s) (hf:16 * ms E s + 8 ≤ f):Calls Tryz.prog 103 #[PP p] W (NodeR p v E s.i s2 x W):=by
 cases h1:isW E wCopy s with
 | true=>exact step_copy s x s2 W hr h h1
 | false =>
  cases h2:isW E wRun s with
  | true=>exact step_run s x s2 W hr h hf h1 h2
  | false =>
   cases h3:isW E wWork s with
   | true=>exact step_work s x s2 W hr h h1 h2 h3
   | false =>
    cases h4:isW E wMk s with
    | true=>exact step_mk s x s2 W hr h h1 h2 h3 h4
    | false =>
     cases h5:isW E wRem s with
     | true=>exact step_rem s x s2 W hr h h1 h2 h3 h4 h5
     | false=>exact step_bad s x s2 W hr h h1 h2 h3 h4 h5
end Go.Proofs.YtmfpmandkhiknaaGreatDoor.qar
namespace Go.Proofs.YtmfpmandkhiknaaGreatDoor.qar
open par
open Go.RowKit
open lex (Tk)
theorem stepR_sT (E:PE) (f:Nat) (s:PS):stepR E f (sT E s) = stepR E f s:=by
 unfold stepR
 rw [isW_sT,isW_sT,isW_sT,isW_sT,isW_sT,sT_sT,tk_sT]
theorem stepR_stk {E:PE} {f:Nat} {s s2:PS} {x:Nd} (h:stepR E f s = some (x,s2)):Stk s s2:=by
 have h0:=(stk_sT E s).trans (stk_inc (sT E s))
 unfold stepR at h
 split at h
 ·cases h
  exact ((h0.trans (stk_pText E _)).trans (stk_pText E _)).trans ((stk_named E _ _ _).trans (stk_must E _ _))
 ·split at h
  ·cases hr:run E f .block (inc (sT E s)) with
   | none=>rw [hr] at h;cases h
   | some r =>
    obtain ⟨xs,s3⟩:=r
    rw [hr] at h
    match xs,h with
    | [],h=>cases h
    | _ :: _ :: _,h=>cases h
    | [x],h =>
     cases h
     exact h0.trans (run_stk E _ _ _ _ _ hr)
  ·split at h
   ·cases h
    exact (h0.trans (stk_pText E _)).trans (stk_must E _ _)
   ·cases h
    exact (stk_sT E s).trans (stk_wrong E _)
theorem stepsR_sT {E:PE} (f m:Nat) (ks:List Nd) (t:PS):stepsR E f m ks (sT E t) = stepsR E f m ks t:=by
 cases m with
 | zero=>rw [stepsR,stepsR]
 | succ m =>
  by_cases hc:t.code = 0
  ·by_cases h0:(sT E t).code = 0
   ·rw [stepsR,stepsR,sT_sT,tk_sT,isW_sT,if_neg (show ¬ (sT E t).code ≠ 0 from fun h=>h h0),if_neg (show ¬ t.code ≠ 0 from fun h=>h hc)]
   ·have hk:(tk E t).kind = 0:=Classical.byContradiction fun hk=>by
     have:=(tk_kind hk).2.2
     rw [this] at h0
     exact h0 hc
    rw [stepsR,stepsR,if_pos h0,if_neg (show ¬ t.code ≠ 0 from fun h=>h hc),if_pos (by rw [hk];simp)]
  ·rw [sT_bad hc]
theorem stepsR_al {E:PE} {t s:PS} (h:Al E t s) (f m:Nat) (ks:List Nd):stepsR E f m ks s = stepsR E f m ks t:=by
 rcases h with rfl | rfl
 ·rfl
 ·exact stepsR_sT f m ks t
theorem stepsR_stk {E:PE} (f:Nat):∀ (m:Nat) (ks:List Nd) (t:PS) (kf:List Nd) (s9:PS),stepsR E f m ks t = some (kf,s9) → Stk t s9:=by
 intro m
 induction m with
 | zero=>intro ks t kf s9 h;rw [stepsR] at h;cases h
 | succ m ih =>
  intro ks t kf s9 h
  rw [stepsR] at h
  split at h
  ·cases h;exact Stk.refl _
  ·split at h
   ·cases h;exact stk_sT E t
   ·cases hr:stepR E f (sT E t) with
    | none=>rw [hr] at h;cases h
    | some r =>
     obtain ⟨x,s2⟩:=r
     rw [hr] at h
     exact ((stk_sT E t).trans (stepR_stk hr)).trans (ih _ _ _ _ h)
end Go.Proofs.YtmfpmandkhiknaaGreatDoor.qar
namespace Go.Proofs.YtmfpmandkhiknaaGreatDoor.qar
open par
open Go.RowKit
open heap
open lex (Tk TRow TkAt run_store_float add0)
set_option maxRecDepth 100000
attribute [local go_sem] run_store_float field_tok0 field_tok1 field_tok3
theorem wrong_at_fault {E:PE} {t:PS} (h:(sT E t).code ≠ 0):(sT E t).code = (wrong E t).code ∧ (sT E t).bad = (wrong E t).bad:=by
 unfold wrong flt
 rw [if_neg h]
 exact ⟨rfl,rfl⟩
def StgJ (W:World) (p:Nat) (v:Value) (E:PE) (i0 bx br:Nat) (g:List UInt8) (at':Int) (f:Nat) (kf:List Nd) (s9:PS) (k:Nat) (wr:World):Prop:=
 ∃ (ks:List Nd) (t:PS) (a:Option Addr) (n:Nat) (S:List Nat),SW W wr p v E t [(bx,ksO 2 g a ks.length n at'),(br,ndO zero (.slice none 0 0))] [⟨ks,.slice a ks.length n,S⟩] ∧
  stepsR E f k ks t = some (kf,s9) ∧ 16 * par.ms E t + 8 ≤ f ∧ par.ms E t + 1 ≤ k ∧ ks.length + par.ms E t ≤ 200003 ∧ i0 < t.i
set_option maxHeartbeats 4000000 in
theorem stage_bad {p:Nat} {v:Value} {E:PE} {f n:Nat} (s:PS) (x:Nd) (s2:PS) (W:World) (hr:stageR E f n s = some (x,s2)) (h:PAt W p v E s) (h1:isW E wFrom s = false):Calls Tryz.prog 71 #[PP p] W (NodeR p v E s.i s2 x W):=by
 have HS:=Lib.hid (SW.start h)
 have HN:=Lib.hid (fun W h=>now_any p v E s W h)
 have HW1:=Lib.hid (fun W hW=>word_any p v E s wFrom false W hW h1)
 have HBD:=Lib.hid (fun W hW=>bad_any p v E s W hW)
 rw [stageR,if_neg (by rw [h1];decide)] at hr
 cases hr
 rw [wrong_sT2]
 have HW:=Lib.hid (wrong_code E s)
 clear h h1
 generalize tk E s = t' at *
 generalize pn E s = t at *
 obtain ⟨kd,u,nm,a⟩:=t
 go_enter Tryz.func71,Tryz.ntmps71
 go_upto_region 1 with fail
 have HS0:=Lib.hid (HS.out.alloc (ndO zero (.slice none 0 0)))
 clear HS
 change Code.wp _ _ _ _ (W.alloc (ndO zero (.slice none 0 0)))
 generalize W.alloc (ndO zero (.slice none 0 0)) = w0 at *
 generalize W.heap.size = br at *
 go_wp2_with fail
 refine (HN.out _ HS0.out.P).mono ?_;rintro e w1 ⟨rfl,hb1⟩
 have HS3:=Lib.hid ((HS0.out.call (HS0.out.P.below hb1) (Turned.of_below hb1)).alloc (ksO 2 [] none 0 0 a))
 clear hb1 HN HS0
 go_upto_region 2 with fail
 change Code.wp _ _ _ _ (w1.alloc (ksO 2 [] none 0 0 a))
 generalize w1.alloc (ksO 2 [] none 0 0 a) = w3 at *
 generalize w1.heap.size = bx at *
 go_wp2_with fail
 refine (HW1.out _ HS3.out.P).mono ?_;rintro e wa ⟨rfl,hP,hT⟩
 have HSa:=Lib.hid (HS3.out.call hP hT)
 clear hP hT HW1 HS3
 go_wp2_with fail
 refine (HBD.out _ HSa.out.P).mono ?_;rintro e w8 ⟨rfl,hT⟩
 exact ⟨rfl,.thr HW.out ⟨rfl,hT⟩ HSa.out.T (Stk.refl _)⟩
set_option maxHeartbeats 4000000 in
theorem stage_from {p:Nat} {v:Value} {E:PE} {f n:Nat} (s:PS) (x:Nd) (s2:PS) (W:World) (hr:stageR E f n s = some (x,s2)) (h:PAt W p v E s) (hf:16 * ms E s + 8 ≤ f) (hn:ms E s < n) (hl:E.ts.length ≤ 100000) (h1:isW E wFrom s = true):Calls Tryz.prog 71 #[PP p] W (NodeR p v E s.i s2 x W):=by
 have HS:=Lib.hid (SW.start h)
 have HN:=Lib.hid (fun W h=>now_any p v E s W h)
 have HW1:=Lib.hid (fun W hW=>(word_any p v E s wFrom true W hW h1:Calls Tryz.prog _ _ W (StpR p v E (inc s) (.bool true) W)))
 obtain ⟨hi,hsT,htk⟩:=h.moreW h1
 have hk:=isW_kind h1
 rw [htk] at hk
 have hc:(inc s).code = 0:=h.c0
 have hmi:=ms_inc (E:=E) (s:=s) (by rw [htk,hk.1];decide)
 rw [hsT] at hmi
 have hle:=ms_le (s:=s) hl
 rw [stageR,if_pos h1,hsT,htk] at hr
 obtain ⟨b1,hb1⟩:∃ b,((pn E (inc s)).kind == 3) = b:=⟨_,rfl⟩
 have hpN:=pText_pn (E:=E) (s:=inc s) hc hb1
 have HKN:=Lib.hid (fun s2 (h2:if b1 = true then s2 = inc (inc s) else s2 = wrong E (inc s)) W (hW:PAt W p v E (inc s))=>kindT_any p v E (inc s) W hW s2 b1 hb1 h2)
 have HP:=Lib.hid hpN
 have HC:=Lib.hid hc
 have hm1:=ms_pText E (inc s)
 clear h hk hsT htk hc hb1 hpN h1
 generalize pn E s = t at *
 obtain ⟨kd,u,nm,a⟩:=t
 simp only at HN hr ⊢
 obtain ⟨q1,hq1⟩:∃ q,pText E (inc s) = q:=⟨_,rfl⟩
 rw [hq1] at hr HP hm1
 have HQ1:=Lib.hid hq1
 clear hq1
 have hm2:=ms_named E wAs a q1.2
 have hk1:=stk_named E wAs a q1.2
 obtain ⟨nx,hnx⟩:∃ nx,named E wAs a q1.2 = nx:=⟨_,rfl⟩
 rw [hnx] at hr hm2 hk1
 have HNX:=Lib.hid hnx
 clear hnx
 have hm3:=ms_must E [59] nx.2
 cases hst:stepsR E f n [nx.1] (must E [59] nx.2) with
 | none=>rw [hst] at hr;cases hr
 | some r =>
 obtain ⟨kf,s9⟩:=r
 rw [hst] at hr
 cases hr
 have HSK:Hid (Stk q1.2 s2 ∧ Stk nx.2 s2 ∧ Stk (must E [59] nx.2) s2):=by
  have e2:=stepsR_stk _ _ _ _ _ _ hst
  have e1:=(stk_must E [59] nx.2).trans e2
  exact ⟨hk1.trans e1,e1,e2⟩
 have HB0:Hid (stepsR E f n [nx.1] (must E [59] nx.2) = some (kf,s2) ∧ 16 * ms E (must E [59] nx.2) + 8 ≤ f ∧ ms E (must E [59] nx.2) + 1 ≤ n ∧ 1 + ms E (must E [59] nx.2) ≤ 200003):=⟨hst,by omega,by omega,by omega⟩
 clear hf hn hmi hle hm1 hm2 hm3 hk1 hst hl
 go_enter Tryz.func71,Tryz.ntmps71
 go_upto_region 1 with fail
 have HS0:=Lib.hid (HS.out.alloc (ndO zero (.slice none 0 0)))
 clear HS
 change Code.wp _ _ _ _ (W.alloc (ndO zero (.slice none 0 0)))
 generalize W.alloc (ndO zero (.slice none 0 0)) = w0 at *
 generalize W.heap.size = br at *
 go_wp2_with fail
 refine (HN.out _ HS0.out.P).mono ?_;rintro e w1 ⟨rfl,hb1⟩
 have HS3:=Lib.hid ((HS0.out.call (HS0.out.P.below hb1) (Turned.of_below hb1)).alloc (ksO 2 [] none 0 0 a))
 clear hb1 HN HS0
 go_upto_region 2 with fail
 change Code.wp _ _ _ _ (w1.alloc (ksO 2 [] none 0 0 a))
 generalize w1.alloc (ksO 2 [] none 0 0 a) = w3 at *
 generalize w1.heap.size = bx at *
 go_wp2_with fail
 refine (HW1.out _ HS3.out.P).mono ?_;rintro e wa ⟨rfl,hP,hT⟩
 have HSa:=Lib.hid (HS3.out.call hP hT)
 clear hP hT HW1 HS3
 obtain ⟨x0,x1,x2,x3,x4,xf0,xf1,xf2,xf3,xf4,xl⟩:=HSa.out.c5 0 rfl
 go_wp2_with fail
 cases b1 with
 | false =>
  have hp:=HP.out
  rw [if_neg (by decide)] at hp
  have HSK2:Hid (Stk (wrong E (inc s)) s2):=by rw [← hp];exact HSK.out.1
  clear hp HP HSK
  refine (HKN.out _ rfl _ HSa.out.P).mono ?_
  rintro e w5 ⟨-,hbad⟩
  obtain ⟨rfl,hT⟩:=hbad (wrong_code E _)
  go_wp2_with fail
  exact ⟨rfl,.thr (wrong_code E _) ⟨rfl,hT⟩ HSa.out.T HSK2.out⟩
 | true =>
  have hp:q1 = (((pn E (inc s)).text,(pn E (inc s)).at'),inc (inc s)):=by have:=HP.out;rw [if_pos rfl] at this;exact this
  subst hp
  refine (HKN.out _ rfl _ HSa.out.P).mono ?_
  rintro e w5 ⟨hok,-⟩
  obtain ⟨rfl,hP,hT⟩:=hok HC.out
  have HS5:=Lib.hid (HSa.out.call hP hT)
  clear hP hT hok HKN HSa HP
  clear x0 x1 x2 x3 x4 xf0 xf1 xf2 xf3 xf4 xl
  obtain ⟨x0,x1,x2,x3,x4,xf0,xf1,xf2,xf3,xf4,xl⟩:=HS5.out.c5 0 rfl
  generalize pn E (inc s) = t1 at *
  obtain ⟨kd1,u1,nm1,a1⟩:=t1
  go_upto_region 5 with fail
  have HS6:=Lib.hid (HS5.out.setL 0 rfl 1 (.string ⟨u1.toArray⟩))
  generalize (w5.setCell _ _) = w6 at HS6 ⊢
  clear HS5
  clear x0 x1 x2 x3 x4 xf0 xf1 xf2 xf3 xf4 xl
  obtain ⟨x0,x1,x2,x3,x4,xf0,xf1,xf2,xf3,xf4,xl⟩:=HS6.out.c5 0 rfl
  have HNM:=Lib.hid (fun W hW=>named_any (p:=p) (v:=v) (E:=E) wAs a (inc (inc s)) W hW)
  have hnx:named E wAs a (inc (inc s)) = nx:=HNX.out
  rw [hnx] at HNM
  clear HNX hnx
  obtain ⟨y,sn⟩:=nx
  go_wp2_with fail
  refine (HNM.out _ HS6.out.P).mono ?_
  rintro e w10 hnr
  rcases hnr with ⟨t10,ht,hi,a10,n10,S10,rfl,hk,hS,hP,hT⟩ | ⟨hc,rfl,hT⟩
  rotate_left
  ·go_wp2_with fail
   exact ⟨rfl,.thr hc ⟨rfl,hT⟩ HS6.out.T HSK.out.2.1⟩
  have HS10:=Lib.hid (HS6.out.callT hk hS hP hT)
  have HA10:=Lib.hid (And.intro ht hi)
  clear hk hS hP hT ht hi HNM HS6
  clear x0 x1 x2 x3 x4 xf0 xf1 xf2 xf3 xf4 xl
  obtain ⟨x0,x1,x2,x3,x4,xf0,xf1,xf2,xf3,xf4,xl⟩:=HS10.out.c5 0 rfl
  go_upto_region 6 with fail
  have HSd:=Lib.hid (SW.buildAt [_] (HS10.out.setL 0 rfl 3 (.slice (some ⟨w10.heap.size,0,none⟩) 1 1)) [y] rfl (by simp) w10.heap.size (by simp) #[.int .i64 y.kind,.string ⟨y.text.toArray⟩,.float .f64 y.num,.slice a10 y.kids.length n10,.int .i64 y.at'] rfl 1 rfl)
  generalize (World.alloc (w10.setCell _ _) _) = w11 at HSd ⊢
  clear HS10
  clear x0 x1 x2 x3 x4 xf0 xf1 xf2 xf3 xf4 xl
  have HMS:=Lib.hid (fun W hW=>must_any p v E t10 [59] W hW)
  rw [← Al.must HA10.out.1] at HMS
  go_wp2_with fail
  refine (HMS.out _ HSd.out.P).mono ?_
  rintro e w12 ⟨hok,hbad⟩
  rcases Classical.em ((must E [59] sn).code = 0) with hc | hc
  rotate_left
  ·obtain ⟨rfl,hT⟩:=hbad hc
   go_wp2_with fail
   exact ⟨rfl,.thr hc ⟨rfl,hT⟩ (HSd.out).T (HSK.out.2.2)⟩
  obtain ⟨rfl,hP,hT⟩:=hok hc
  have HS12:=Lib.hid (HSd.out.call hP hT)
  clear hP hT hok hbad hc
  have HI0:Hid (StgJ W p v E s.i bx br u1 a f kf s2 n w12):=⟨[y],must E [59] sn,_,1,_,HS12.out,HB0.out.1,HB0.out.2.1,HB0.out.2.2.1,HB0.out.2.2.2,by
   have h1:s.i + 2 ≤ t10.i:=HA10.out.2
   have:=must_al_i (g := [59]) HA10.out.1
   omega⟩
  clear HS12 HB0 HMS HSd HA10 HSK HQ1
  generalize w10.heap.size = b10 at *
  go_wp2_with fail
  go_loopg [] n (fun k wr=>StgJ W p v E s.i bx br u1 a f kf s2 k wr)
  case atStart=>exact HI0.out
  case round =>
   obtain ⟨ks,t,a4,n4,S4,hsw,hr,hm,hkf,hlen,hti⟩:=hrel
   have HS6:=Lib.hid hsw
   have hc:=hsw.P.c0
   obtain ⟨k',rfl⟩:∃ k',gk = k' + 1:=⟨gk - 1,by omega⟩
   have HN:=Lib.hid (fun W h=>now_any p v E t W h)
   have HBD:=Lib.hid (fun W hW=>bad_any p v E t W hW)
   rw [stepsR,if_neg (show ¬ t.code ≠ 0 from fun h=>h hc),stepR_sT] at hr
   have hkk:=(pn_kt (E:=E) hc).1
   have hpw:=pn_isW (E:=E) (s:=t) hc wFrom
   rw [← hkk,← hpw] at hr
   have hEnd:=hsw.P.atEnd
   obtain ⟨bf,hbf⟩:∃ b,((pn E t).kind == 1 && (pn E t).text == wFrom) = b:=⟨_,rfl⟩
   have HIS:=Lib.hid (fun W hW=>is_any p v E t 1 wFrom bf W hW hbf)
   rw [hbf] at hr
   clear HI0 hkk hpw hbf
   by_cases hA:(pn E t).kind = 0
   ·rw [if_pos (by rw [hA];simp)] at hr
    cases hr
    have hk1:((pn E t).kind != 0) = false:=by rw [hA];rfl
    have hk2:((pn E t).kind == 0) = true:=by rw [hA];rfl
    have HEnd:=Lib.hid (hEnd hA)
    have HTI:=Lib.hid hti
    clear hEnd hA hsw hm hkf hlen hc hti HIS
    generalize pn E t = tk0 at *
    obtain ⟨kd2,u2,nm2,a2⟩:=tk0
    simp only at hk1 hk2
    go_wp2_with fail
    refine (HN.out _ HS6.out.P).mono ?_;rintro e w7 ⟨rfl,hbw7⟩
    have HS7:=Lib.hid (HS6.out.call (HS6.out.P.below hbw7) (Turned.of_below hbw7))
    clear hbw7
    clear HS6
    go_wp2_with fail
    refine (HN.out _ HS7.out.P).mono ?_;rintro e w8 ⟨rfl,hbw8⟩
    have HS8:=Lib.hid (HS7.out.call (HS7.out.P.below hbw8) (Turned.of_below hbw8))
    clear hbw8
    clear HS7 HN
    have hcs:=HS8.out.P.cells
    have q2:=hcs.c2
    have hpl:=HS8.out.P.lt
    clear hcs
    by_cases hl0:E.lex = 0
    ·have hlb:(E.lex != 0) = false:=by rw [hl0];rfl
     clear hl0
     obtain ⟨y0,y1,y2,y3,y4,yf0,yf1,yf2,yf3,yf4,yl⟩:=HS8.out.c5 0 rfl
     obtain ⟨r0,r1,r2,r3,r4,rf0,rf1,rf2,rf3,rf4,rl⟩:=HS8.out.c5 1 rfl
     go_wp2_with fail
     have HSH:=Lib.hid (HS8.out.set5 1 rfl (.int .i64 2) (.string ⟨u1.toArray⟩) (.float .f64 0) (.slice a4 kf.length n4) (.int .i64 a))
     clear HS8
     generalize (((((w8.setCell _ _).setCell _ _).setCell _ _).setCell _ _).setCell _ _) = wf at HSH ⊢
     obtain ⟨z0,z1,z2,z3,z4,zf0,zf1,zf2,zf3,zf4,zl⟩:=HSH.out.c5 1 rfl
     refine bodyPost_ret (v:=.agg #[.int .i64 2,.string ⟨u1.toArray⟩,.float .f64 0,.slice a4 kf.length n4,.int .i64 a]) (by simp [results,Tryz.results71,go_sem,z0,z1,z2,z3,z4]) rfl ?_
     exact .ok (.inr rfl) HTI.out (HSH.out.node (List.mem_cons_self ..) (.mk 2 u1 0 kf a) rfl)
    ·have hlb:(E.lex != 0) = true:=by simpa using hl0
     have HC0:=Lib.hid (HEnd.out.2 hl0)
     clear hl0
     go_wp2_with fail
     refine (HBD.out _ HS8.out.P).mono ?_;rintro e w9 ⟨rfl,hT⟩
     obtain ⟨e1,e2⟩:=wrong_at_fault HC0.out
     exact ⟨rfl,.inr ⟨HC0.out,(Thr.from ⟨rfl,hT⟩ HS8.out.T).of e1 e2⟩⟩
   ·have hk1:((pn E t).kind != 0) = true:=by simpa using hA
    have hk2:((pn E t).kind == 0) = false:=by simpa using hA
    rw [hk2,Bool.or_false] at hr
    cases bf with
    | true =>
     rw [if_pos rfl] at hr
     cases hr
     have HTI:=Lib.hid hti
     clear hEnd hA hsw hm hkf hlen hc hti HBD
     generalize pn E t = tk0 at *
     obtain ⟨kd2,u2,nm2,a2⟩:=tk0
     simp only at hk1 hk2
     go_wp2_with fail
     refine (HN.out _ HS6.out.P).mono ?_;rintro e w7 ⟨rfl,hbw7⟩
     have HS7:=Lib.hid (HS6.out.call (HS6.out.P.below hbw7) (Turned.of_below hbw7))
     clear hbw7
     clear HS6
     go_wp2_with fail
     refine (HIS.out _ HS7.out.P).mono ?_;rintro e w8 ⟨rfl,hbw8⟩
     have HS8:=Lib.hid (HS7.out.call (HS7.out.P.below hbw8) (Turned.of_below hbw8))
     clear hbw8
     clear HS7
     go_wp2_with fail
     refine (HN.out _ HS8.out.P).mono ?_;rintro e w9 ⟨rfl,hbw9⟩
     have HS9:=Lib.hid (HS8.out.call (HS8.out.P.below hbw9) (Turned.of_below hbw9))
     clear hbw9
     clear HS8 HN HIS
     obtain ⟨y0,y1,y2,y3,y4,yf0,yf1,yf2,yf3,yf4,yl⟩:=HS9.out.c5 0 rfl
     obtain ⟨r0,r1,r2,r3,r4,rf0,rf1,rf2,rf3,rf4,rl⟩:=HS9.out.c5 1 rfl
     go_wp2_with fail
     have HSH:=Lib.hid (HS9.out.set5 1 rfl (.int .i64 2) (.string ⟨u1.toArray⟩) (.float .f64 0) (.slice a4 kf.length n4) (.int .i64 a))
     clear HS9
     generalize (((((w9.setCell _ _).setCell _ _).setCell _ _).setCell _ _).setCell _ _) = wf at HSH ⊢
     obtain ⟨z0,z1,z2,z3,z4,zf0,zf1,zf2,zf3,zf4,zl⟩:=HSH.out.c5 1 rfl
     refine bodyPost_ret (v:=.agg #[.int .i64 2,.string ⟨u1.toArray⟩,.float .f64 0,.slice a4 kf.length n4,.int .i64 a]) (by simp [results,Tryz.results71,go_sem,z0,z1,z2,z3,z4]) rfl ?_
     exact .ok (.inr rfl) HTI.out (HSH.out.node (List.mem_cons_self ..) (.mk 2 u1 0 kf a) rfl)
    | false =>
     rw [if_neg (by decide)] at hr
     obtain ⟨yq,s5,h1,-,-⟩:=step_ends E f t (by omega) hc
     rw [h1] at hr
     simp only at hr
     have HZ:=Lib.hid (stepsR_stk _ _ _ _ _ _ hr)
     have HR:=Lib.hid hr
     have HJ2:=Lib.hid (fun W h=>stepJ (p:=p) (v:=v) t yq s5 W h1 h hm)
     have HK:Hid (16 * ms E t + 8 ≤ f ∧ ms E t + 1 ≤ k' + 1 ∧ ks.length + ms E t ≤ 200003 ∧ t.code = 0 ∧ s.i < t.i):=⟨hm,hkf,hlen,hc,hti⟩
     clear hEnd hA hsw hm hkf hlen hc hti HBD hr h1
     generalize pn E t = tk0 at *
     obtain ⟨kd2,u2,nm2,a2⟩:=tk0
     simp only at hk1 hk2
     go_wp2_with fail
     refine (HN.out _ HS6.out.P).mono ?_;rintro e w8 ⟨rfl,hbw8⟩
     have HS8:=Lib.hid (HS6.out.call (HS6.out.P.below hbw8) (Turned.of_below hbw8))
     clear hbw8
     clear HS6
     go_wp2_with fail
     refine (HIS.out _ HS8.out.P).mono ?_;rintro e w7 ⟨rfl,hbw7⟩
     have HS7:=Lib.hid (HS8.out.call (HS8.out.P.below hbw7) (Turned.of_below hbw7))
     clear hbw7
     clear HS8 HN HIS
     obtain ⟨y0,y1,y2,y3,y4,yf0,yf1,yf2,yf3,yf4,yl⟩:=HS7.out.c5 0 rfl
     go_wp2_with fail
     go_region_law
      (first
       | (obtain ⟨a2,n2,w11,S2,hrun,hsw⟩:=((HS10.out.alloc (ndO yq (.slice a10 yq.kids.length n10))).drop _ ((List.Sublist.refl _).cons _)).appendS yq rfl w10.heap.size (blk_new _ _) (by have:=HK.out.2.2.1;simp only;omega)
          have HRUN:=Lib.hid hrun
          have HS11:=Lib.hid hsw
          clear hrun hsw
          obtain ⟨r0,r1,r2,r3,r4,rf0,rf1,rf2,rf3,rf4,rl⟩:=HS11.out.c5 0 rfl
          refine step_append_run (by rfl) (by rfl) (by rfl) (by rfl) (by rfl) HRUN.out ?_)
       | (go_simp
          go_at_call 103
          refine (HJ2.out _ (by first | exact HS7.out.P | exact HS7.out.drew.P)).mono ?_
          rintro e w10 hnr
          rcases hnr with ⟨t10,ht,hi,a10,n10,S10,rfl,hk,hS,hP,hT⟩ | ⟨hc,rfl,hT⟩
          rotate_left
          · go_wp2_with fail
            exact ⟨rfl,.thr hc ⟨rfl,hT⟩ HS7.out.drew.T HZ.out⟩
          have HS10:=Lib.hid (HS7.out.drew.callT hk hS hP hT)
          have HA10:=Lib.hid (And.intro ht hi)
          clear hk hS hP hT ht hi
          obtain ⟨r0,r1,r2,r3,r4,rf0,rf1,rf2,rf3,rf4,rl⟩:=HS10.out.c5 0 rfl))
     all_goals
      have HB:Hid (StgJ W p v E s.i bx br u1 a f kf s2 k' (w11.setCell ⟨bx,3,none⟩ (.slice a2 (ks.length + 1) n2))):=⟨ks ++ [yq],t10,a2,n2,S2,by
       have:=HS11.out.setL 0 rfl 3 (.slice a2 (ks ++ [yq]).length n2)
       rw [List.length_append] at this ⊢
       exact this,by
       have:=HR.out
       rw [stepsR_al HA10.out.1] at this
       exact this,by
       have:=HS11.out.P.ms HK.out.2.2.2.1 HA10.out.2
       have:=HK.out.1
       omega,by
       have:=HS11.out.P.ms HK.out.2.2.2.1 HA10.out.2
       have:=HK.out.2.1
       omega,by
       have:=HS11.out.P.ms HK.out.2.2.2.1 HA10.out.2
       have:=HK.out.2.2.1
       rw [List.length_append]
       simp only [List.length_cons,List.length_nil]
       omega,by
       have:=HK.out.2.2.2.2
       have:=HA10.out.2
       omega⟩
      clear HS11 HRUN HK HS7 HJ2 HS10 HR HZ HA10
      go_wp2_with fail
      go_roundg k'
      case rel=>exact HB.out
      case measure=>omega
theorem stageJ {p:Nat} {v:Value} {E:PE} {f n:Nat} (s:PS) (x:Nd) (s2:PS) (W:World) (hr:stageR E f n s = some (x,s2)) (h:PAt W p v E s) (hf:16 * ms E s + 8 ≤ f) (hn:ms E s < n) (hl:E.ts.length ≤ 100000):Calls Tryz.prog 71 #[PP p] W (NodeR p v E s.i s2 x W):=by
 cases h1:isW E wFrom s with
 | true=>exact stage_from s x s2 W hr h hf hn hl h1
 | false=>exact stage_bad s x s2 W hr h h1
end Go.Proofs.YtmfpmandkhiknaaGreatDoor.qar
