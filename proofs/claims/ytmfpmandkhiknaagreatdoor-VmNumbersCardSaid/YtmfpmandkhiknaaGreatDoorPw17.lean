/-
  Proved: what block of the document's parser returns. Conditions: as each theorem says.
-/
import Derived.Test.YtmfpmandkhiknaaGreatDoorPw16
import Derived.Deep.RegionHeld3
import Derived.Deep.RegionLaw
import Derived.Deep.AppendLies
set_option linter.unusedVariables false
set_option linter.unusedSimpArgs false
namespace Go.Proofs.YtmfpmandkhiknaaGreatDoor.par
open Go.RowKit
open heap
open lex (Tk TRow TkAt run_store_float add0)
set_option maxRecDepth 100000
attribute [local go_sem] run_store_float
theorem step_append_run {P:Program} {w w':World} {ops:Array Oper} {o:Oper} {a:Act} {K:Act → World → Prop} {Q:Exit → Act → World → Prop} {E:Prop} {v' vs vx:Value} {s x:Operand} {t ty:TypeId} (hgd:o.guard = none)
  (ho:o.op = .call { callee:=.builtin .append,args := #[s,x],argTypes := #[t,t] }) (hty:o.type = ty) (hs:a.eval s = vs) (hx:a.eval x = vx) (hr:(Builtin.append_ #[t,t] ty #[vs,vx]).run P w = .ok v' w')
  (h:K (a.put o.dst v') w'):if Region.wanted o (yielded ops a.tmps) = true then Oper.wp P o a w K Q else E:=by
 have hw:Region.wanted o (yielded ops a.tmps) = true:=by simp [Region.wanted,hgd]
 rw [if_pos hw]
 exact reg.wp_value (reg.runs_append ho hty hs hx hr) h
theorem SW.appendS {w W:World} {p:Nat} {v:Value} {E:PE} {s:PS} {L:List (Nat × Obj)} {K':List Tr} {kr kn:Tr} (h:SW w W p v E s L (kn :: kr :: K')) (x:Nd) (hx:x.kids = kn.ks) (g:Nat) (hg:W.heap[g]? = some (ndO x kn.v)) (hn:kr.ks.length ≤ 1000000) :
  ∃ a2 n2 W2 S2,(Builtin.append_ #[59,59] 59 #[kr.v,.slice (some ⟨g,0,none⟩) 1 1]).run Tryz.prog W = .ok (.slice a2 (kr.ks ++ [x]).length n2) W2 ∧ SW w W2 p v E s L (⟨kr.ks ++ [x],.slice a2 (kr.ks ++ [x]).length n2,S2⟩ :: K'):=by
 obtain ⟨v2,W2,S2,h1,h2⟩:=h.append x hx g hg hn
 obtain ⟨a2,n2,hv⟩:=(h2.trees _ (List.mem_cons_self ..)).1.slice
 simp only at hv
 subst hv
 exact ⟨a2,n2,W2,S2,h1,h2⟩
abbrev ksO (k:Int) (g:List UInt8) (a:Option Addr) (m n:Nat) (at':Int):Obj:=.cells #[.int .i64 k,.string ⟨g.toArray⟩,.float .f64 0,.slice a m n,.int .i64 at'] 61 (0,0)
def BlkI (W:World) (p:Nat) (v:Value) (E:PE) (bx:Nat) (at':Int) (L:List (Nat × Obj)) (kf:List Nd) (sf:PS) (f k:Nat) (wr:World):Prop:=
 ∃ (ks:List Nd) (s3:PS) (a:Option Addr) (n:Nat) (S:List Nat),SW W wr p v E s3 ((bx,ksO 8 [] a ks.length n at') :: L) [⟨ks,.slice a ks.length n,S⟩] ∧
  run E k (.blockL ks) s3 = some (kf,sf) ∧ 16 * ms E s3 + 3 ≤ k ∧ k ≤ f ∧ ks.length + ms E s3 ≤ 200002
theorem ms_le {E:PE} {s:PS} (h:E.ts.length ≤ 100000):ms E s ≤ 100001:=by
 unfold ms
 split <;> omega
set_option maxHeartbeats 4000000 in
theorem block_step {p:Nat} {v:Value} {E:PE} {f:Nat} (J:∀ k,k ≤ f → Jobs p v E k) (s:PS) (x:Nd) (s2:PS) (W:World) (hf:16 * ms E s + rank .block ≤ f + 1) (hr:run E (f + 1) .block s = some ([x],s2)) (h:PAt W p v E s) :
  Calls Tryz.prog 83 #[PP p] W (NodeR p v E s2 x W):=by
 have HS:=Lib.hid (SW.start h)
 have HTA:=Lib.hid (fun W h=>t_any p v E s W h)
 have hmt:=ms_sT E s
 simp only [rank] at hf
 rw [run] at hr
 have HSG:=Lib.hid (fun W h=>sign_fix p v E s _ [123] _ W h rfl rfl)
 have HIN:=Lib.hid (fun W h=>into_any p v E (sT E s) (tk E s).at' W h)
 have hmi:=ms_into E (sT E s) (tk E s).at'
 have HR:=Lib.hid hr
 have HJ:=Lib.hid J
 have hle:=ms_le (s:=s) h.len
 clear h J hr
 generalize isS E [123] s = b at *
 generalize sT E s = s1 at *
 generalize tk E s = t at *
 generalize into s1 t.at' = io at *
 obtain ⟨bi,si⟩:=io
 simp only at hmi
 have HM:Hid (16 * ms E (if b then si else s1) + 3 ≤ f ∧ ms E (if b then si else s1) ≤ 100001):=by
  unfold Hid
  split <;> omega
 clear hmt hf hmi hle
 go_enter Tryz.func83,Tryz.ntmps83
 go_wp2_with fail
 have HS0:=Lib.hid (HS.out.alloc (ndO zero (.slice none 0 0)))
 clear HS
 refine (HTA.out _ HS0.out.P).mono ?_
 rintro e w2 ⟨rfl,hP,hT⟩
 have HS1:=Lib.hid (HS0.out.call hP hT)
 clear hP hT HS0
 have HS2:=Lib.hid (HS1.out.alloc (tnO t))
 go_upto_region 2 with fail
 go_cut [15] from 7 to 15 (fun s15 wx=>s15 = .bool (b && !bi) ∧ Hid (SW W wx p v E (if b then si else s1) [(w2.heap.size,tnO t),(W.heap.size,ndO zero (.slice none 0 0))] []))
 case first =>
  clear HR HJ HM
  cases b with
  | false =>
   go_wp2_with fail
   refine (HSG.out _ HS2.out.P).mono ?_
   rintro e w3 ⟨rfl,hP,hT⟩
   have HS3:=Lib.hid (HS2.out.call hP hT)
   clear hP hT HS2
   go_wp2_with fail
   go_meet
   exact ⟨rfl,HS3.out⟩
  | true =>
   go_wp2_with fail
   refine (HSG.out _ HS2.out.P).mono ?_
   rintro e w3 ⟨rfl,hP,hT⟩
   have HS3:=Lib.hid (HS2.out.call hP hT)
   clear hP hT HS2
   obtain ⟨t0,t1,t2,t3,tf0,tf1,tf2,tf3,tl⟩:=HS3.out.c4 0 rfl
   go_wp2_with fail
   clear t0 t1 t2 t3 tf0 tf1 tf2 tf3 tl
   refine (HIN.out _ HS3.out.P).mono ?_
   rintro e w4 ⟨rfl,hP,hT⟩
   have HS4:=Lib.hid (HS3.out.call hP hT)
   clear hP hT HS3
   go_wp2_with fail
   go_meet
   exact ⟨rfl,HS4.out⟩
 case rest =>
  obtain ⟨rfl,HS3⟩:=hcut
  clear HSG HIN HTA HS2 HS1
  rename_i wx
  by_cases hq:b = true ∧ bi = false
  ·obtain ⟨rfl,rfl⟩:=hq
   have hr:=HR.out
   simp only [Bool.not_false,Bool.and_self,↓reduceIte,and_self] at hr HS3
   cases hr
   clear HR HJ HM
   obtain ⟨r0,r1,r2,r3,r4,rf0,rf1,rf2,rf3,rf4,rl⟩:=HS3.out.c5 1 rfl
   go_wp2_with fail
   have HSF:=Lib.hid (HS3.out.set5 1 rfl (.int .i64 0) (.string ⟨#[]⟩) (.float .f64 0) (.slice none 0 0) (.int .i64 0))
   generalize (((((wc.setCell _ _).setCell _ _).setCell _ _).setCell _ _).setCell _ _) = wf at HSF ⊢
   obtain ⟨z0,z1,z2,z3,z4,zf0,zf1,zf2,zf3,zf4,zl⟩:=HSF.out.c5 1 rfl
   refine bodyPost_ret (v:=.agg #[.int .i64 0,.string ⟨#[]⟩,.float .f64 0,.slice none 0 0,.int .i64 0]) (by simp [results,Tryz.results83,go_sem,z0,z1,z2,z3,z4]) rfl ?_
   exact HSF.out.leaf zero rfl
  ·have hbb:(b && !bi) = false:=by cases b <;> cases bi <;> simp_all
   have hr:=HR.out
   rw [if_neg hq] at hr
   rw [hbb]
   generalize (if b = true then si else s1) = sA at *
   have HMU:=Lib.hid (fun W h=>must_any p v E sA [123] W h)
   have hmm:=ms_must E [123] sA
   have hm:=HM.out
   generalize must E [123] sA = sB at *
   obtain ⟨ks,s4,h1,h2,h3,h4⟩:=run_ends E f (.blockL []) sB (by simp [okJ]) (by simp only [rank];omega)
   simp only [h1] at hr
   cases hr
   have HB0:Hid (run E f (.blockL []) sB = some (ks,s4) ∧ 16 * ms E sB + 3 ≤ f ∧ ms E sB ≤ 100001):=⟨h1,by omega,by omega⟩
   clear h1 h2 h3 h4 hmm hm HM HR hq hbb
   go_wp2_with fail
   refine (HMU.out _ HS3.out.P).mono ?_
   rintro e w4 ⟨⟨uw4,rfl⟩,hP,hT⟩
   have HS4:=Lib.hid (HS3.out.call hP hT)
   clear hP hT HS3
   obtain ⟨t0,t1,t2,t3,tf0,tf1,tf2,tf3,tl⟩:=HS4.out.c4 0 rfl
   have HS5:=Lib.hid (HS4.out.alloc (ksO 8 [] none 0 0 t.at'))
   have HI0:Hid (BlkI W p v E w4.heap.size t.at' [(w2.heap.size,tnO t),(W.heap.size,ndO zero (.slice none 0 0))] ks s4 f f (w4.alloc (ksO 8 [] none 0 0 t.at'))):=
    ⟨[],sB,none,0,[],⟨HS5.out.P,HS5.out.T,HS5.out.plt,HS5.out.own,HS5.out.loc,fun k hk=>by simp at hk;subst hk;exact ⟨Tr.nil _,by simp⟩,HS5.out.ndl,fun l hl k hk=>by simp at hk;subst hk;simp,by simp⟩,HB0.out.1,HB0.out.2.1,Nat.le_refl _,by have:=HB0.out.2.2;simp;omega⟩
   clear HB0 HS5
   go_wp2_with fail
   generalize w4.alloc _ = wi at *
   generalize w4.heap.size = bx at *
   generalize w2.heap.size = bt at *
   clear t0 t1 t2 t3 tf0 tf1 tf2 tf3 tl
   clear HS4
   go_loopg [] f (fun k wr=>BlkI W p v E bx t.at' [(bt,tnO t),(W.heap.size,ndO zero (.slice none 0 0))] ks s4 f k wr)
   case atStart=>exact HI0.out
   case round =>
    obtain ⟨qs,s6,a4,n4,S4,hsw,hr,hm,hkf,hlen⟩:=hrel
    have HS6:=Lib.hid hsw
    clear hsw HI0
    obtain ⟨k',rfl⟩:∃ k',gk = k' + 1:=⟨gk - 1,by omega⟩
    have hcs:=HS6.out.P.cells
    have q4:=hcs.c4
    clear hcs
    rw [run] at hr
    have HMU2:=Lib.hid (fun W h=>must_any p v E s4 [125] W h)
    by_cases hc:s6.code = 0
    ·rw [if_neg (by simp [hc])] at hr
     rw [hc] at q4
     have HSG:=Lib.hid (fun W h=>sign_any p v E s6 [125] _ W h rfl)
     have hmt:=ms_sT E s6
     have hc0:(sT E s6).code = 0 → ms E (sT E s6) = ms E s6:=fun h=>by
      rw [ms_ok h,ms_ok hc,sT_i]
     have HR:=Lib.hid hr
     have hm1:1 ≤ ms E s6:=by rw [ms_ok hc];omega
     have HM:Hid (k' + 1 ≤ f ∧ 16 * ms E s6 + 2 ≤ k' ∧ 1 ≤ ms E s6 ∧ qs.length + ms E s6 ≤ 200002 ∧ ms E (sT E s6) ≤ ms E s6):=⟨hkf,by omega,hm1,hlen,hmt⟩
     clear hr hm hkf hlen hmt hc hc0 hm1
     generalize isS E [125] s6 = bq at *
     generalize hs7:sT E s6 = s7 at *
     have HS7:=Lib.hid hs7
     clear hs7
     obtain ⟨wo,rfl⟩:∃ wo:World,wo = wr:=⟨_,rfl⟩
     go_wp2_with fail
     refine (HSG.out _ HS6.out.P).mono ?_
     rintro e w9 ⟨rfl,hP,hT⟩
     have HS9:=Lib.hid (HS6.out.call hP hT)
     clear hP hT HS6
     have hr:=HR.out
     clear HR q4
     cases bq with
     | true =>
      simp only [↓reduceIte] at hr
      cases hr
      clear HM HJ HS7
      go_wp2_with fail
      refine (HMU2.out _ HS9.out.P).mono ?_
      rintro e w8 ⟨⟨uw8,rfl⟩,hP,hT⟩
      have HS8:=Lib.hid (HS9.out.call hP hT)
      clear hP hT HS9
      have hcs:=HS8.out.P.cells
      have q6:=hcs.c6
      have f6:=hcs.f6
      have hpl:=HS8.out.P.lt
      clear hcs
      obtain ⟨r0,r1,r2,r3,r4,rf0,rf1,rf2,rf3,rf4,rl⟩:=HS8.out.c5 0 rfl
      obtain ⟨rn,rm⟩:=HS8.out.ne 0 rfl
      obtain ⟨q0,q1,q2,q3,q4,qf0,qf1,qf2,qf3,qf4,ql⟩:=HS8.out.c5 2 rfl
      obtain ⟨qn,qm⟩:=HS8.out.ne 2 rfl
      go_wp2_with fail
      have HSF:=Lib.hid ((HS8.out.out.set5 2 rfl (.int .i64 8) (.string ⟨#[]⟩) (.float .f64 0) (.slice a4 ks.length n4) (.int .i64 t.at')))
      generalize ((((((w8.setCell _ _).setCell _ _).setCell _ _).setCell _ _).setCell _ _).setCell _ _) = wf at HSF ⊢
      obtain ⟨z0,z1,z2,z3,z4,zf0,zf1,zf2,zf3,zf4,zl⟩:=HSF.out.c5 2 rfl
      refine bodyPost_ret (v:=.agg #[.int .i64 8,.string ⟨#[]⟩,.float .f64 0,.slice a4 ks.length n4,.int .i64 t.at']) (by simp [results,Tryz.results83,go_sem,z0,z1,z2,z3,z4]) rfl ?_
      exact HSF.out.node (List.mem_cons_self ..) (.mk 8 [] 0 ks t.at') rfl
     | false =>
      simp only [Bool.false_eq_true,↓reduceIte] at hr
      clear HMU2
      have hm:=HM.out
      obtain ⟨y,s8,h1,h2,h3⟩:=(run_ends E k' .stmt s7 (by simp [okJ]) (by simp only [rank];omega)).one rfl
      simp only [h1] at hr
      have HJ2:=Lib.hid (fun W h=>(HJ.out k' (by omega)).stmt s7 y s8 W (by simp only [rank];omega) h1 h)
      have HK:Hid (run E k' (.blockL (qs ++ [y])) s8 = some (ks,s4) ∧ 16 * ms E s8 + 3 ≤ k' ∧ k' ≤ f ∧ (qs ++ [y]).length + ms E s8 ≤ 200002 ∧ qs.length ≤ 1000000):=by
       by_cases h7:s7.code = 0
       ·have:=h3 rfl h7
        exact ⟨hr,by omega,by omega,by simp;omega,by omega⟩
       ·have:=ms_bad (E:=E) h7
        exact ⟨hr,by omega,by omega,by simp;omega,by omega⟩
      clear hr h1 h2 h3 hm HM HS7
      obtain ⟨r0,r1,r2,r3,r4,rf0,rf1,rf2,rf3,rf4,rl⟩:=HS9.out.c5 0 rfl
      go_wp2_with fail
      go_region_law
       (first
        | (obtain ⟨a2,n2,w11,S2,hrun,hsw⟩:=((HS10.out.alloc (ndO y (.slice a10 y.kids.length n10))).drop _ ((List.Sublist.refl _).cons _)).appendS y rfl w10.heap.size (blk_new _ _) HK.out.2.2.2.2
           have HRUN:=Lib.hid hrun
           have HS11:=Lib.hid hsw
           clear hrun hsw
           obtain ⟨r0,r1,r2,r3,r4,rf0,rf1,rf2,rf3,rf4,rl⟩:=HS11.out.c5 0 rfl
           refine step_append_run (by rfl) (by rfl) (by rfl) (by rfl) (by rfl) HRUN.out ?_)
        | (go_simp
           go_at_call 57
           refine (HJ2.out _ (by first | exact HS9.out.P | exact HS9.out.drew.P)).mono ?_
           rintro e w10 ⟨a10,n10,S10,rfl,hk,hS,hP,hT⟩
           have HS10:=Lib.hid (HS9.out.drew.callT hk hS hP hT)
           clear hk hS hP hT
           obtain ⟨r0,r1,r2,r3,r4,rf0,rf1,rf2,rf3,rf4,rl⟩:=HS10.out.c5 0 rfl))
      all_goals
       have HB:Hid (BlkI W p v E bx t.at' [(bt,tnO t),(W.heap.size,ndO zero (.slice none 0 0))] ks s4 f k' (w11.setCell ⟨bx,3,none⟩ (.slice a2 (qs.length + 1) n2))):=⟨qs ++ [y],s8,a2,n2,S2,by
        have:=HS11.out.setL 0 rfl 3 (.slice a2 (qs ++ [y]).length n2)
        rw [List.length_append] at this ⊢
        exact this,HK.out.1,HK.out.2.1,HK.out.2.2.1,HK.out.2.2.2.1⟩
       clear HS11 HRUN HK HS9 HJ2
       go_wp2_with fail
       go_roundg k'
       case rel=>exact HB.out
       case measure=>omega
    ·have hcb:(s6.code == 0) = false:=beq_eq_false_iff_ne.2 hc
     rw [if_pos hc] at hr
     cases hr
     clear hm hkf hlen hc HJ
     go_wp2_with fail
     clear q4
     refine (HMU2.out _ HS6.out.P).mono ?_
     rintro e w8 ⟨⟨uw8,rfl⟩,hP,hT⟩
     have HS8:=Lib.hid (HS6.out.call hP hT)
     clear hP hT HS6
     have hcs:=HS8.out.P.cells
     have q6:=hcs.c6
     have f6:=hcs.f6
     have hpl:=HS8.out.P.lt
     clear hcs
     obtain ⟨r0,r1,r2,r3,r4,rf0,rf1,rf2,rf3,rf4,rl⟩:=HS8.out.c5 0 rfl
     obtain ⟨rn,rm⟩:=HS8.out.ne 0 rfl
     obtain ⟨q0,q1,q2,q3,q4,qf0,qf1,qf2,qf3,qf4,ql⟩:=HS8.out.c5 2 rfl
     obtain ⟨qn,qm⟩:=HS8.out.ne 2 rfl
     go_wp2_with fail
     have HSF:=Lib.hid ((HS8.out.out.set5 2 rfl (.int .i64 8) (.string ⟨#[]⟩) (.float .f64 0) (.slice a4 ks.length n4) (.int .i64 t.at')))
     generalize ((((((w8.setCell _ _).setCell _ _).setCell _ _).setCell _ _).setCell _ _).setCell _ _) = wf at HSF ⊢
     obtain ⟨z0,z1,z2,z3,z4,zf0,zf1,zf2,zf3,zf4,zl⟩:=HSF.out.c5 2 rfl
     refine bodyPost_ret (v:=.agg #[.int .i64 8,.string ⟨#[]⟩,.float .f64 0,.slice a4 ks.length n4,.int .i64 t.at']) (by simp [results,Tryz.results83,go_sem,z0,z1,z2,z3,z4]) rfl ?_
     exact HSF.out.node (List.mem_cons_self ..) (.mk 8 [] 0 ks t.at') rfl
end Go.Proofs.YtmfpmandkhiknaaGreatDoor.par
