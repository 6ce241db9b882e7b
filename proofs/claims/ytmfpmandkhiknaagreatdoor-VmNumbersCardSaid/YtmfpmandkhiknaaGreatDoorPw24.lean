/-
  Proved: what primary of the document's parser returns (written by wip/bin/par10.py). Conditions: as each theorem says.
-/
import Derived.Test.YtmfpmandkhiknaaGreatDoorPw23
set_option linter.unusedVariables false
set_option linter.unusedSimpArgs false
namespace Go.Proofs.YtmfpmandkhiknaaGreatDoor.par
open Go.RowKit
open heap
open lex (Tk TRow TkAt run_store_float add0)
set_option maxRecDepth 100000
attribute [local go_sem] run_store_float
theorem called_lt {E:PE} {s:PS} (h:called E s = true):s.i + 2 ≤ E.ts.length:=by
 by_cases hlt:s.i + 1 < E.ts.length
 ·omega
 ·rw [called_no hlt] at h;exact absurd h Bool.false_ne_true
def ArgI (W:World) (p:Nat) (v:Value) (E:PE) (bx:Nat) (g:List UInt8) (at':Int) (L:List (Nat × Obj)) (kf:List Nd) (sf:PS) (f k:Nat) (wr:World):Prop:=
 ∃ (ks:List Nd) (s3:PS) (a:Option Addr) (n:Nat) (S:List Nat),SW W wr p v E s3 ((bx,ksO 19 g a ks.length n at') :: L) [⟨ks,.slice a ks.length n,S⟩] ∧
  run E k (.args ks) s3 = some (kf,sf) ∧ 16 * ms E s3 + 10 ≤ k ∧ k ≤ f ∧ ks.length + ms E s3 ≤ 200002
set_option maxHeartbeats 4000000 in
theorem primary_step {p:Nat} {v:Value} {E:PE} {f:Nat} (J:∀ k,k ≤ f → Jobs p v E k) (s:PS) (x:Nd) (s9:PS) (W:World) (hf:16 * ms E s + rank .primary ≤ f + 1) (hr:run E (f + 1) .primary s = some ([x],s9)) (h:PAt W p v E s) :
  Calls Tryz.prog 184 #[PP p] W (NodeR p v E s9 x W):=by
 have HS:=Lib.hid (SW.start h)
 have HTA:=Lib.hid (fun W h=>t_any p v E s W h)
 have hti:(tk E s).kind ≠ 0 → (sT E s).i < E.ts.length ∧ ms E (inc (sT E s)) < ms E s:=fun h=>⟨by rw [sT_i];exact (tk_kind h).2.1,ms_inc h⟩
 have hsc:(tk E s).kind ≠ 0 → (sT E s).code = 0:=fun h=>by rw [(tk_kind h).2.2];exact (tk_kind h).1
 have h40:isS E [40] s = true → (tk E s).kind = 4:=fun h=>(isS_kind h).1
 have hle:=ms_le (s:=s) h.len
 clear h
 simp only [rank] at hf
 rw [run] at hr
 generalize hs2:sT E s = s2 at *
 have H40:=Lib.hid (fun W h=>sign_fix p v E s s2 [40] _ W h hs2.symm rfl)
 have HKT:=Lib.hid (fun W=>kept_any (tk E s).text _ W rfl)
 have hws:wrong E s2 = wrong E s:=by rw [← hs2];unfold wrong;rw [sT_sT,tk_sT]
 have HWR:=Lib.hid (fun W h=>wrong_any p v E s2 W h)
 have hsi:s2.i = s.i:=by rw [← hs2,sT_i]
 rw [two,hs2,← hsi] at hr
 clear hsi
 clear hs2
 have HC:Hid (called E s2 = called E s2):=rfl
 have HR:=Lib.hid hr
 have HTI:=Lib.hid hti
 have HSC:=Lib.hid hsc
 have HS40:=Lib.hid h40
 have HLE:=Lib.hid hle
 have HF:=Lib.hid hf
 have HJJ:=Lib.hid J
 clear hr hti hsc h40 hle hf J hws
 generalize wrong E s2 = s8 at *
 generalize isS E [40] s = b40 at *
 generalize hcl:called E s2 = c at *
 clear HC
 have HC:=Lib.hid hcl.symm
 clear hcl
 generalize tk E s = t at *
 obtain ⟨kd,u,nm,a⟩:=t
 simp only at HKT HR HTI HSC HS40
 generalize kept u = kp at *
 go_enter Tryz.func184,Tryz.ntmps184
 go_wp2_with fail
 have HS0:=Lib.hid (HS.out.alloc (ndO zero (.slice none 0 0)))
 clear HS
 refine (HTA.out _ HS0.out.P).mono ?_
 rintro e w2 ⟨rfl,hP,hT⟩
 have HS1:=Lib.hid (HS0.out.call hP hT)
 clear hP hT HS0
 have HS2:=Lib.hid (HS1.out.alloc (tnO ⟨kd,u,nm,a⟩))
 clear HTA
 by_cases k2:kd = 2
 ·subst k2
  have hr:=HR.out
  rw [if_pos rfl] at hr
  cases hr
  have hi:=(HTI.out (by decide)).1
  clear HR HTI HSC HS40 HLE HF HJJ HKT HWR HC H40 HS2
  have hcs:=HS1.out.P.cells
  have q1:=hcs.c1
  have f1:=hcs.f1
  have hle:=HS1.out.P.le
  have hlen:=HS1.out.P.len
  have hpl:=HS1.out.P.lt
  clear hcs
  obtain ⟨q0,q1,q2,q3,q4,qf0,qf1,qf2,qf3,qf4,ql⟩:=HS1.out.c5 0 rfl
  obtain ⟨qn,qm⟩:=HS1.out.ne 0 rfl
  go_wp2_with fail
  have HSF:=Lib.hid (((HS1.out.inc hi).set5 0 rfl (.int .i64 15) (.string ⟨#[]⟩) (.float .f64 nm) (.slice none 0 0) (.int .i64 a)).alloc (tnO ⟨2,u,nm,a⟩))
  generalize (World.alloc ((((((w2.setCell _ _).setCell _ _).setCell _ _).setCell _ _).setCell _ _).setCell _ _) _) = wf at HSF ⊢
  obtain ⟨z0,z1,z2,z3,z4,zf0,zf1,zf2,zf3,zf4,zl⟩:=HSF.out.c5 1 rfl
  refine bodyPost_ret (v:=.agg #[.int .i64 15,.string ⟨#[]⟩,.float .f64 nm,.slice none 0 0,.int .i64 a]) (by simp [results,Tryz.results184,go_sem,z0,z1,z2,z3,z4]) rfl ?_
  exact HSF.out.leaf (.mk 15 [] nm [] a) rfl
 have e2:(kd == 2) = false:=beq_eq_false_iff_ne.2 k2
 by_cases k3:kd = 3
 ·subst k3
  have hr:=HR.out
  rw [if_neg (by decide),if_pos rfl] at hr
  cases hr
  have hi:=(HTI.out (by decide)).1
  clear HR HTI HSC HS40 HLE HF HJJ HKT HWR HC H40 HS2 k2
  have hcs:=HS1.out.P.cells
  have q1:=hcs.c1
  have f1:=hcs.f1
  have hle:=HS1.out.P.le
  have hlen:=HS1.out.P.len
  have hpl:=HS1.out.P.lt
  clear hcs
  obtain ⟨q0,q1,q2,q3,q4,qf0,qf1,qf2,qf3,qf4,ql⟩:=HS1.out.c5 0 rfl
  obtain ⟨qn,qm⟩:=HS1.out.ne 0 rfl
  go_wp2_with fail
  have HSF:=Lib.hid (((HS1.out.inc hi).set5 0 rfl (.int .i64 16) (.string ⟨u.toArray⟩) (.float .f64 0) (.slice none 0 0) (.int .i64 a)).alloc (tnO ⟨3,u,nm,a⟩))
  generalize (World.alloc ((((((w2.setCell _ _).setCell _ _).setCell _ _).setCell _ _).setCell _ _).setCell _ _) _) = wf at HSF ⊢
  obtain ⟨z0,z1,z2,z3,z4,zf0,zf1,zf2,zf3,zf4,zl⟩:=HSF.out.c5 1 rfl
  refine bodyPost_ret (v:=.agg #[.int .i64 16,.string ⟨u.toArray⟩,.float .f64 0,.slice none 0 0,.int .i64 a]) (by simp [results,Tryz.results184,go_sem,z0,z1,z2,z3,z4]) rfl ?_
  exact HSF.out.leaf (.mk 16 u 0 [] a) rfl
 have e3:(kd == 3) = false:=beq_eq_false_iff_ne.2 k3
 have hr:=HR.out
 rw [if_neg k2,if_neg k3] at hr
 have HR:=Lib.hid hr
 clear hr k2 k3
 go_wp2_with fail
 refine (H40.out _ HS2.out.P).mono ?_
 rintro e w3 ⟨rfl,hP,hT⟩
 have HS3:=Lib.hid (HS2.out.call hP hT)
 clear hP hT HS2
 cases b40 with
 | true =>
  have hr:=HR.out
  simp only [↓reduceIte] at hr
  obtain ⟨hi,hmi⟩:=HTI.out (by rw [HS40.out rfl];decide)
  have hf:=HF.out
  obtain ⟨y,s4,h1,h2,-⟩:=(run_ends E f .inner (inc s2) (by simp [okJ]) (by simp only [rank];omega)).one rfl
  simp only [h1] at hr
  cases hr
  have HJ:=Lib.hid (fun W h=>(HJJ.out f (Nat.le_refl _)).inner (inc s2) x s4 W (by simp only [rank];omega) h1 h)
  have HM:=Lib.hid (fun W h=>must_any p v E s4 [41] W h)
  clear HR HTI HSC HS40 HLE HF HJJ HKT HWR HC h1 h2 hf hmi HS1
  have hcs:=HS3.out.P.cells
  have q1:=hcs.c1
  have f1:=hcs.f1
  have hle:=HS3.out.P.le
  have hlen:=HS3.out.P.len
  have hpl:=HS3.out.P.lt
  clear hcs
  go_wp2_with fail
  refine (HJ.out _ (HS3.out.inc hi).P).mono ?_
  rintro e w4 ⟨aw4,nw4,Sw4,rfl,hk,hS,hP,hT⟩
  have HS4:=Lib.hid ((HS3.out.inc hi).callT hk hS hP hT)
  clear hk hS hP hT
  have HS5:=Lib.hid (HS4.out.alloc (ndO x (.slice aw4 x.kids.length nw4)))
  clear q1 f1 hle hlen hpl
  clear HS4 HS3
  go_wp2_with fail
  refine (HM.out _ HS5.out.P).mono ?_
  rintro e w6 ⟨⟨uw6,rfl⟩,hP,hT⟩
  have HS6:=Lib.hid (HS5.out.call hP hT)
  clear hP hT HS5
  obtain ⟨r0,r1,r2,r3,r4,rf0,rf1,rf2,rf3,rf4,rl⟩:=HS6.out.c5 0 rfl
  obtain ⟨q0,q1,q2,q3,q4,qf0,qf1,qf2,qf3,qf4,ql⟩:=HS6.out.c5 2 rfl
  go_wp2_with fail
  have HSF:=Lib.hid ((HS6.out.set5 2 rfl (.int .i64 x.kind) (.string ⟨x.text.toArray⟩) (.float .f64 x.num) (.slice aw4 x.kids.length nw4) (.int .i64 x.at')))
  generalize (((((w6.setCell _ _).setCell _ _).setCell _ _).setCell _ _).setCell _ _) = wf at HSF ⊢
  obtain ⟨z0,z1,z2,z3,z4,zf0,zf1,zf2,zf3,zf4,zl⟩:=HSF.out.c5 2 rfl
  refine bodyPost_ret (v:=ndV x (.slice aw4 x.kids.length nw4)) (by simp [results,Tryz.results184,go_sem,z0,z1,z2,z3,z4]) rfl ?_
  exact HSF.out.node (List.mem_cons_self ..) x rfl
 | false =>
 have hr:=HR.out
 simp only [Bool.false_eq_true,↓reduceIte] at hr
 have HR:=Lib.hid hr
 have HSq:=HS3
 clear hr HS3 HS40 HS1
 generalize w2.heap.size = bt at *
 have HK:Hid True:=trivial
 have HSF0:Hid True:=trivial
 go_upto_region 14 with fail
 go_cut [55] from 56 to 101 (fun s55 wx=>s55 = .bool (kd == 1 && c) ∧ Hid (SW W wx p v E s2 [(bt,tnO ⟨kd,u,nm,a⟩),(W.heap.size,ndO zero (.slice none 0 0))] []))
 case first =>
  clear HK HR HJJ HSF0
  have HROW:=Lib.hid HSq.out.P.row
  have hcs:=HSq.out.P.cells
  have hpl:=HSq.out.P.lt
  have hle:=HSq.out.P.le
  have hlen:=HSq.out.P.len
  have q0:=hcs.c0
  have q1:=hcs.c1
  clear hcs
  obtain ⟨r0,r1,r2,r3,rf0,rf1,rf2,rf3,rl⟩:=HSq.out.c4 0 rfl
  obtain ⟨rn,rm⟩:=HSq.out.ne 0 rfl
  by_cases k1':kd = 1
  ·subst k1'
   have hkd:((1:Int) == 1) = true:=rfl
   by_cases hlt:s2.i + 1 < E.ts.length
   ·have ht:E.ts[s2.i + 1]? = some E.ts[s2.i + 1]:=List.getElem?_eq_getElem hlt
    rcases HROW.out.cells with ⟨-,h0⟩ | ⟨g,cp,hv,hg,-,hc1,hc2,hcell⟩
    ·rw [h0] at hlt;simp at hlt
    ·obtain ⟨x0,x1,-,-⟩:=hcell _ _ ht
     have hc:=HC.out.trans (called_at ht)
     generalize E.ts[s2.i + 1] = t1 at *
     obtain ⟨k1,u1,n1,a1⟩:=t1
     simp only at x0 x1 hc
     rw [hv] at q0
     unfold maxLen at hc2
     have hlI:((s2.i:Int) + 1) < (E.ts.length:Int):=by omega
     have hiw:IntKind.i64.wrap ((s2.i:Int) + 1) = (s2.i:Int) + 1:=IntWalk.i64_in _ (by omega)
     have hi0:0 ≤ (s2.i:Int) + 1:=by omega
     have hin:((s2.i:Int) + 1).toNat = s2.i + 1:=by omega
     clear hcell ht hv HC
     by_cases hk:k1 = 4
     ·subst hk
      obtain rfl:c = (u1 == [40]):=by rw [hc];simp
      clear hc
      go_quiet (fail)
      go_wp2_with fail
      go_meet
      exact ⟨by simp,HSq.out.drewN nq⟩
     ·have hkb:(k1 == 4) = false:=beq_eq_false_iff_ne.2 hk
      obtain rfl:c = false:=by rw [hc,hkb];rfl
      clear hc hk
      refine reg.region_each (by kernel_rfl) reg.Ext (fun ri v w'=>match ri with
        | 0=>v = .pointer (some ⟨bt,0,none⟩)
        | 1=>v = .int .i64 1
        | 2=>v = .bool true
        | 3=>v = .bool true
        | 4=>v = PP p
        | 5=>v = .pointer (some ⟨p,0,none⟩)
        | 6=>v = .pointer (some ⟨p,1,none⟩)
        | 7=>v = .int .i64 s2.i
        | 8=>v = .int .i64 ((s2.i:Int) + 1)
        | 9=>v = PP p
        | 10=>v = .pointer (some ⟨p,0,none⟩)
        | 11=>v = .pointer (some ⟨p,0,none⟩)
        | 12=>v = .slice (some ⟨g,0,none⟩) E.ts.length cp
        | 13=>v = .int .i64 E.ts.length
        | 14=>v = .bool true
        | 15=>v = .bool true
        | 16=>v = .bool true
        | 17=>v = PP p
        | 18=>v = .pointer (some ⟨p,0,none⟩)
        | 19=>v = .pointer (some ⟨p,0,none⟩)
        | 20=>v = .slice (some ⟨g,0,none⟩) E.ts.length cp
        | 21=>v = PP p
        | 22=>v = .pointer (some ⟨p,0,none⟩)
        | 23=>v = .pointer (some ⟨p,1,none⟩)
        | 24=>v = .int .i64 s2.i
        | 25=>v = .int .i64 ((s2.i:Int) + 1)
        | 26=>v = .pointer (some ⟨g,(s2.i + 1) * 4,none⟩)
        | 27=>v = .pointer (some ⟨g,(s2.i + 1) * 4,none⟩)
        | 28=>v = .int .i64 k1
        | 29=>v = .bool false
        | 30=>v = .bool false
        | 31=>v = .bool false
        | 32=>v = undef
        | 33=>v = undef
        | 34=>v = undef
        | 35=>v = undef
        | 36=>v = undef
        | 37=>v = undef
        | 38=>v = undef
        | 39=>v = undef
        | 40=>v = undef
        | 41=>v = undef
        | 42=>v = undef
        | 43=>v = undef
        | 44=>v = undef
        | 45=>v = .bool false
        | 46=>v = .bool false
        | _=>True) reg.Ext.refl reg.Ext.trans ?_ (by kernel_rfl) ?_ ?_
      ·
       intro i v w1 w2 h hx
       rcases i with _|_|_|_|_|_|_|_|_|_|_|_|_|_|_|_|_|_|_|_|_|_|_|_|_|_|_|_|_|_|_|_|_|_|_|_|_|_|_|_|_|_|_|_|_|_|_|i
       ·exact h
       ·exact h
       ·exact h
       ·exact h
       ·exact h
       ·exact h
       ·exact h
       ·exact h
       ·exact h
       ·exact h
       ·exact h
       ·exact h
       ·exact h
       ·exact h
       ·exact h
       ·exact h
       ·exact h
       ·exact h
       ·exact h
       ·exact h
       ·exact h
       ·exact h
       ·exact h
       ·exact h
       ·exact h
       ·exact h
       ·exact h
       ·exact h
       ·exact h
       ·exact h
       ·exact h
       ·exact h
       ·exact h
       ·exact h
       ·exact h
       ·exact h
       ·exact h
       ·exact h
       ·exact h
       ·exact h
       ·exact h
       ·exact h
       ·exact h
       ·exact h
       ·exact h
       ·exact h
       ·exact h
       ·trivial
      ·
       refine ⟨?_,?_,?_,?_,?_,?_,?_,?_,?_,?_,?_,?_,?_,?_,?_,?_,?_,?_,?_,?_,?_,?_,?_,?_,?_,?_,?_,?_,?_,?_,?_,?_,?_,?_,?_,?_,?_,?_,?_,?_,?_,?_,?_,?_,?_,?_,?_,trivial⟩
       ·-- 0: slot 56:=Op.fieldAddr 98 t3 0
        intro ra w' hx hs
        have s3:ra.eval (.tmp 3) = .pointer (some ⟨bt,0,none⟩):=hs.1
        clear hs
        have q0:=hx.cell q0
        have q1:=hx.cell q1
        have x0:=hx.cell x0
        have r0:=hx.cell r0
        change Oper.wp _ _ ra w' _ _
        refine reg.wp_value (v:=.pointer (some ⟨bt,0,none⟩)) (w':=w') ?_ ⟨_,rfl,reg.Ext.refl _,rfl⟩
        intro ρ rc rf rg re
        rw [re] at s3
        simp [execOp,go_sem,rc,rf,rg,s3] <;> first | omega | rfl | decide
       ·-- 1: slot 57:=Op.load 3 t56
        intro ra w' hx hs
        have s56:ra.eval (.tmp 56) = .pointer (some ⟨bt,0,none⟩):=hs.1
        clear hs
        have q0:=hx.cell q0
        have q1:=hx.cell q1
        have x0:=hx.cell x0
        have r0:=hx.cell r0
        change Oper.wp _ _ ra w' _ _
        refine reg.wp_value (v:=.int .i64 1) (w':=w') ?_ ⟨_,rfl,reg.Ext.refl _,rfl⟩
        intro ρ rc rf rg re
        rw [re] at s56
        simp [execOp,go_sem,rc,rf,rg,s56,r0] <;> first | omega | rfl | decide
       ·-- 2: slot 58:=Op.binOp BinOp.eql 3 t57 (const (1:i64)) 3
        intro ra w' hx hs
        have s57:ra.eval (.tmp 57) = .int .i64 1:=hs.1
        clear hs
        have q0:=hx.cell q0
        have q1:=hx.cell q1
        have x0:=hx.cell x0
        have r0:=hx.cell r0
        change Oper.wp _ _ ra w' _ _
        refine reg.wp_value (v:=.bool true) (w':=w') ?_ ⟨_,rfl,reg.Ext.refl _,rfl⟩
        intro ρ rc rf rg re
        rw [re] at s57
        simp [execOp,go_sem,rc,rf,rg,s57,hkd] <;> first | omega | rfl | decide
       ·-- 3: slot 59:=Op.move t58
        intro ra w' hx hs
        have s58:ra.eval (.tmp 58) = .bool true:=hs.1
        clear hs
        have q0:=hx.cell q0
        have q1:=hx.cell q1
        have x0:=hx.cell x0
        have r0:=hx.cell r0
        change Oper.wp _ _ ra w' _ _
        refine reg.wp_value (v:=.bool true) (w':=w') ?_ ⟨_,rfl,reg.Ext.refl _,rfl⟩
        intro ρ rc rf rg re
        rw [re] at s58
        simp [execOp,go_sem,rc,rf,rg,s58] <;> first | omega | rfl | decide
       ·-- 4: slot 60:=Op.move t0
        intro ra w' hx hs
        have s0:ra.eval (.tmp 0) = PP p:=hs.1
        have s59:ra.eval (.tmp 59) = .bool true:=hs.2.1
        clear hs
        have q0:=hx.cell q0
        have q1:=hx.cell q1
        have x0:=hx.cell x0
        have r0:=hx.cell r0
        refine reg.want_yes rfl rfl rfl s59 rfl ?_
        change Oper.wp _ _ ra w' _ _
        refine reg.wp_value (v:=PP p) (w':=w') ?_ ⟨_,rfl,reg.Ext.refl _,rfl⟩
        intro ρ rc rf rg re
        rw [re] at s0 s59
        simp [execOp,go_sem,rc,rf,rg,s0,s59] <;> first | omega | rfl | decide
       ·-- 5: slot 61:=Op.nilCheck t60
        intro ra w' hx hs
        have s60:ra.eval (.tmp 60) = PP p:=hs.1
        have s59:ra.eval (.tmp 59) = .bool true:=hs.2.1
        clear hs
        have q0:=hx.cell q0
        have q1:=hx.cell q1
        have x0:=hx.cell x0
        have r0:=hx.cell r0
        refine reg.want_yes rfl rfl rfl s59 rfl ?_
        change Oper.wp _ _ ra w' _ _
        refine reg.wp_value (v:=.pointer (some ⟨p,0,none⟩)) (w':=w') ?_ ⟨_,rfl,reg.Ext.refl _,rfl⟩
        intro ρ rc rf rg re
        rw [re] at s60 s59
        simp [execOp,go_sem,rc,rf,rg,s60,s59] <;> first | omega | rfl | decide
       ·-- 6: slot 62:=Op.fieldAddr 102 t61 1
        intro ra w' hx hs
        have s61:ra.eval (.tmp 61) = .pointer (some ⟨p,0,none⟩):=hs.1
        have s59:ra.eval (.tmp 59) = .bool true:=hs.2.1
        clear hs
        have q0:=hx.cell q0
        have q1:=hx.cell q1
        have x0:=hx.cell x0
        have r0:=hx.cell r0
        refine reg.want_yes rfl rfl rfl s59 rfl ?_
        change Oper.wp _ _ ra w' _ _
        refine reg.wp_value (v:=.pointer (some ⟨p,1,none⟩)) (w':=w') ?_ ⟨_,rfl,reg.Ext.refl _,rfl⟩
        intro ρ rc rf rg re
        rw [re] at s61 s59
        simp [execOp,go_sem,rc,rf,rg,s61,s59] <;> first | omega | rfl | decide
       ·-- 7: slot 63:=Op.load 3 t62
        intro ra w' hx hs
        have s62:ra.eval (.tmp 62) = .pointer (some ⟨p,1,none⟩):=hs.1
        have s59:ra.eval (.tmp 59) = .bool true:=hs.2.1
        clear hs
        have q0:=hx.cell q0
        have q1:=hx.cell q1
        have x0:=hx.cell x0
        have r0:=hx.cell r0
        refine reg.want_yes rfl rfl rfl s59 rfl ?_
        change Oper.wp _ _ ra w' _ _
        refine reg.wp_value (v:=.int .i64 s2.i) (w':=w') ?_ ⟨_,rfl,reg.Ext.refl _,rfl⟩
        intro ρ rc rf rg re
        rw [re] at s62 s59
        simp [execOp,go_sem,rc,rf,rg,s62,s59,q1] <;> first | omega | rfl | decide
       ·-- 8: slot 64:=Op.binOp BinOp.add 3 t63 (const (1:i64)) 3
        intro ra w' hx hs
        have s63:ra.eval (.tmp 63) = .int .i64 s2.i:=hs.1
        have s59:ra.eval (.tmp 59) = .bool true:=hs.2.1
        clear hs
        have q0:=hx.cell q0
        have q1:=hx.cell q1
        have x0:=hx.cell x0
        have r0:=hx.cell r0
        refine reg.want_yes rfl rfl rfl s59 rfl ?_
        change Oper.wp _ _ ra w' _ _
        refine reg.wp_value (v:=.int .i64 ((s2.i:Int) + 1)) (w':=w') ?_ ⟨_,rfl,reg.Ext.refl _,rfl⟩
        intro ρ rc rf rg re
        rw [re] at s63 s59
        simp [execOp,go_sem,rc,rf,rg,s63,s59,hiw] <;> first | omega | rfl | decide
       ·-- 9: slot 65:=Op.move t0
        intro ra w' hx hs
        have s0:ra.eval (.tmp 0) = PP p:=hs.1
        have s59:ra.eval (.tmp 59) = .bool true:=hs.2.1
        clear hs
        have q0:=hx.cell q0
        have q1:=hx.cell q1
        have x0:=hx.cell x0
        have r0:=hx.cell r0
        refine reg.want_yes rfl rfl rfl s59 rfl ?_
        change Oper.wp _ _ ra w' _ _
        refine reg.wp_value (v:=PP p) (w':=w') ?_ ⟨_,rfl,reg.Ext.refl _,rfl⟩
        intro ρ rc rf rg re
        rw [re] at s0 s59
        simp [execOp,go_sem,rc,rf,rg,s0,s59] <;> first | omega | rfl | decide
       ·-- 10: slot 66:=Op.nilCheck t65
        intro ra w' hx hs
        have s65:ra.eval (.tmp 65) = PP p:=hs.1
        have s59:ra.eval (.tmp 59) = .bool true:=hs.2.1
        clear hs
        have q0:=hx.cell q0
        have q1:=hx.cell q1
        have x0:=hx.cell x0
        have r0:=hx.cell r0
        refine reg.want_yes rfl rfl rfl s59 rfl ?_
        change Oper.wp _ _ ra w' _ _
        refine reg.wp_value (v:=.pointer (some ⟨p,0,none⟩)) (w':=w') ?_ ⟨_,rfl,reg.Ext.refl _,rfl⟩
        intro ρ rc rf rg re
        rw [re] at s65 s59
        simp [execOp,go_sem,rc,rf,rg,s65,s59] <;> first | omega | rfl | decide
       ·-- 11: slot 67:=Op.fieldAddr 102 t66 0
        intro ra w' hx hs
        have s66:ra.eval (.tmp 66) = .pointer (some ⟨p,0,none⟩):=hs.1
        have s59:ra.eval (.tmp 59) = .bool true:=hs.2.1
        clear hs
        have q0:=hx.cell q0
        have q1:=hx.cell q1
        have x0:=hx.cell x0
        have r0:=hx.cell r0
        refine reg.want_yes rfl rfl rfl s59 rfl ?_
        change Oper.wp _ _ ra w' _ _
        refine reg.wp_value (v:=.pointer (some ⟨p,0,none⟩)) (w':=w') ?_ ⟨_,rfl,reg.Ext.refl _,rfl⟩
        intro ρ rc rf rg re
        rw [re] at s66 s59
        simp [execOp,go_sem,rc,rf,rg,s66,s59] <;> first | omega | rfl | decide
       ·-- 12: slot 68:=Op.load 100 t67
        intro ra w' hx hs
        have s67:ra.eval (.tmp 67) = .pointer (some ⟨p,0,none⟩):=hs.1
        have s59:ra.eval (.tmp 59) = .bool true:=hs.2.1
        clear hs
        have q0:=hx.cell q0
        have q1:=hx.cell q1
        have x0:=hx.cell x0
        have r0:=hx.cell r0
        refine reg.want_yes rfl rfl rfl s59 rfl ?_
        change Oper.wp _ _ ra w' _ _
        refine reg.wp_value (v:=.slice (some ⟨g,0,none⟩) E.ts.length cp) (w':=w') ?_ ⟨_,rfl,reg.Ext.refl _,rfl⟩
        intro ρ rc rf rg re
        rw [re] at s67 s59
        simp [execOp,go_sem,rc,rf,rg,s67,s59,q0] <;> first | omega | rfl | decide
       ·-- 13: slot 69:=Op.call { builtin len,args := #[t68],argTypes := #[100] }
        intro ra w' hx hs
        have s68:ra.eval (.tmp 68) = .slice (some ⟨g,0,none⟩) E.ts.length cp:=hs.1
        have s59:ra.eval (.tmp 59) = .bool true:=hs.2.1
        clear hs
        have q0:=hx.cell q0
        have q1:=hx.cell q1
        have x0:=hx.cell x0
        have r0:=hx.cell r0
        refine reg.want_yes rfl rfl rfl s59 rfl ?_
        change Oper.wp _ _ ra w' _ _
        refine reg.wp_value (v:=.int .i64 E.ts.length) (w':=w') ?_ ⟨_,rfl,reg.Ext.refl _,rfl⟩
        intro ρ rc rf rg re
        rw [re] at s68 s59
        simp [execOp,go_sem,rc,rf,rg,s68,s59] <;> first | omega | rfl | decide
       ·-- 14: slot 70:=Op.binOp BinOp.lss 3 t64 t69 3
        intro ra w' hx hs
        have s64:ra.eval (.tmp 64) = .int .i64 ((s2.i:Int) + 1):=hs.1
        have s69:ra.eval (.tmp 69) = .int .i64 E.ts.length:=hs.2.1
        have s59:ra.eval (.tmp 59) = .bool true:=hs.2.2.1
        clear hs
        have q0:=hx.cell q0
        have q1:=hx.cell q1
        have x0:=hx.cell x0
        have r0:=hx.cell r0
        refine reg.want_yes rfl rfl rfl s59 rfl ?_
        change Oper.wp _ _ ra w' _ _
        refine reg.wp_value (v:=.bool true) (w':=w') ?_ ⟨_,rfl,reg.Ext.refl _,rfl⟩
        intro ρ rc rf rg re
        rw [re] at s64 s69 s59
        simp [execOp,go_sem,rc,rf,rg,s64,s69,s59,hlI] <;> first | omega | rfl | decide
       ·-- 15: slot 71:=Op.pick t59 t70 (const (Value.bool false))
        intro ra w' hx hs
        have s59:ra.eval (.tmp 59) = .bool true:=hs.1
        have s70:ra.eval (.tmp 70) = .bool true:=hs.2.1
        clear hs
        have q0:=hx.cell q0
        have q1:=hx.cell q1
        have x0:=hx.cell x0
        have r0:=hx.cell r0
        change Oper.wp _ _ ra w' _ _
        refine reg.wp_value (v:=.bool true) (w':=w') ?_ ⟨_,rfl,reg.Ext.refl _,rfl⟩
        intro ρ rc rf rg re
        rw [re] at s59 s70
        simp [execOp,go_sem,rc,rf,rg,s59,s70] <;> first | omega | rfl | decide
       ·-- 16: slot 72:=Op.move t71
        intro ra w' hx hs
        have s71:ra.eval (.tmp 71) = .bool true:=hs.1
        clear hs
        have q0:=hx.cell q0
        have q1:=hx.cell q1
        have x0:=hx.cell x0
        have r0:=hx.cell r0
        change Oper.wp _ _ ra w' _ _
        refine reg.wp_value (v:=.bool true) (w':=w') ?_ ⟨_,rfl,reg.Ext.refl _,rfl⟩
        intro ρ rc rf rg re
        rw [re] at s71
        simp [execOp,go_sem,rc,rf,rg,s71] <;> first | omega | rfl | decide
       ·-- 17: slot 73:=Op.move t0
        intro ra w' hx hs
        have s0:ra.eval (.tmp 0) = PP p:=hs.1
        have s72:ra.eval (.tmp 72) = .bool true:=hs.2.1
        clear hs
        have q0:=hx.cell q0
        have q1:=hx.cell q1
        have x0:=hx.cell x0
        have r0:=hx.cell r0
        refine reg.want_yes rfl rfl rfl s72 rfl ?_
        change Oper.wp _ _ ra w' _ _
        refine reg.wp_value (v:=PP p) (w':=w') ?_ ⟨_,rfl,reg.Ext.refl _,rfl⟩
        intro ρ rc rf rg re
        rw [re] at s0 s72
        simp [execOp,go_sem,rc,rf,rg,s0,s72] <;> first | omega | rfl | decide
       ·-- 18: slot 74:=Op.nilCheck t73
        intro ra w' hx hs
        have s73:ra.eval (.tmp 73) = PP p:=hs.1
        have s72:ra.eval (.tmp 72) = .bool true:=hs.2.1
        clear hs
        have q0:=hx.cell q0
        have q1:=hx.cell q1
        have x0:=hx.cell x0
        have r0:=hx.cell r0
        refine reg.want_yes rfl rfl rfl s72 rfl ?_
        change Oper.wp _ _ ra w' _ _
        refine reg.wp_value (v:=.pointer (some ⟨p,0,none⟩)) (w':=w') ?_ ⟨_,rfl,reg.Ext.refl _,rfl⟩
        intro ρ rc rf rg re
        rw [re] at s73 s72
        simp [execOp,go_sem,rc,rf,rg,s73,s72] <;> first | omega | rfl | decide
       ·-- 19: slot 75:=Op.fieldAddr 102 t74 0
        intro ra w' hx hs
        have s74:ra.eval (.tmp 74) = .pointer (some ⟨p,0,none⟩):=hs.1
        have s72:ra.eval (.tmp 72) = .bool true:=hs.2.1
        clear hs
        have q0:=hx.cell q0
        have q1:=hx.cell q1
        have x0:=hx.cell x0
        have r0:=hx.cell r0
        refine reg.want_yes rfl rfl rfl s72 rfl ?_
        change Oper.wp _ _ ra w' _ _
        refine reg.wp_value (v:=.pointer (some ⟨p,0,none⟩)) (w':=w') ?_ ⟨_,rfl,reg.Ext.refl _,rfl⟩
        intro ρ rc rf rg re
        rw [re] at s74 s72
        simp [execOp,go_sem,rc,rf,rg,s74,s72] <;> first | omega | rfl | decide
       ·-- 20: slot 76:=Op.load 100 t75
        intro ra w' hx hs
        have s75:ra.eval (.tmp 75) = .pointer (some ⟨p,0,none⟩):=hs.1
        have s72:ra.eval (.tmp 72) = .bool true:=hs.2.1
        clear hs
        have q0:=hx.cell q0
        have q1:=hx.cell q1
        have x0:=hx.cell x0
        have r0:=hx.cell r0
        refine reg.want_yes rfl rfl rfl s72 rfl ?_
        change Oper.wp _ _ ra w' _ _
        refine reg.wp_value (v:=.slice (some ⟨g,0,none⟩) E.ts.length cp) (w':=w') ?_ ⟨_,rfl,reg.Ext.refl _,rfl⟩
        intro ρ rc rf rg re
        rw [re] at s75 s72
        simp [execOp,go_sem,rc,rf,rg,s75,s72,q0] <;> first | omega | rfl | decide
       ·-- 21: slot 77:=Op.move t0
        intro ra w' hx hs
        have s0:ra.eval (.tmp 0) = PP p:=hs.1
        have s72:ra.eval (.tmp 72) = .bool true:=hs.2.1
        clear hs
        have q0:=hx.cell q0
        have q1:=hx.cell q1
        have x0:=hx.cell x0
        have r0:=hx.cell r0
        refine reg.want_yes rfl rfl rfl s72 rfl ?_
        change Oper.wp _ _ ra w' _ _
        refine reg.wp_value (v:=PP p) (w':=w') ?_ ⟨_,rfl,reg.Ext.refl _,rfl⟩
        intro ρ rc rf rg re
        rw [re] at s0 s72
        simp [execOp,go_sem,rc,rf,rg,s0,s72] <;> first | omega | rfl | decide
       ·-- 22: slot 78:=Op.nilCheck t77
        intro ra w' hx hs
        have s77:ra.eval (.tmp 77) = PP p:=hs.1
        have s72:ra.eval (.tmp 72) = .bool true:=hs.2.1
        clear hs
        have q0:=hx.cell q0
        have q1:=hx.cell q1
        have x0:=hx.cell x0
        have r0:=hx.cell r0
        refine reg.want_yes rfl rfl rfl s72 rfl ?_
        change Oper.wp _ _ ra w' _ _
        refine reg.wp_value (v:=.pointer (some ⟨p,0,none⟩)) (w':=w') ?_ ⟨_,rfl,reg.Ext.refl _,rfl⟩
        intro ρ rc rf rg re
        rw [re] at s77 s72
        simp [execOp,go_sem,rc,rf,rg,s77,s72] <;> first | omega | rfl | decide
       ·-- 23: slot 79:=Op.fieldAddr 102 t78 1
        intro ra w' hx hs
        have s78:ra.eval (.tmp 78) = .pointer (some ⟨p,0,none⟩):=hs.1
        have s72:ra.eval (.tmp 72) = .bool true:=hs.2.1
        clear hs
        have q0:=hx.cell q0
        have q1:=hx.cell q1
        have x0:=hx.cell x0
        have r0:=hx.cell r0
        refine reg.want_yes rfl rfl rfl s72 rfl ?_
        change Oper.wp _ _ ra w' _ _
        refine reg.wp_value (v:=.pointer (some ⟨p,1,none⟩)) (w':=w') ?_ ⟨_,rfl,reg.Ext.refl _,rfl⟩
        intro ρ rc rf rg re
        rw [re] at s78 s72
        simp [execOp,go_sem,rc,rf,rg,s78,s72] <;> first | omega | rfl | decide
       ·-- 24: slot 80:=Op.load 3 t79
        intro ra w' hx hs
        have s79:ra.eval (.tmp 79) = .pointer (some ⟨p,1,none⟩):=hs.1
        have s72:ra.eval (.tmp 72) = .bool true:=hs.2.1
        clear hs
        have q0:=hx.cell q0
        have q1:=hx.cell q1
        have x0:=hx.cell x0
        have r0:=hx.cell r0
        refine reg.want_yes rfl rfl rfl s72 rfl ?_
        change Oper.wp _ _ ra w' _ _
        refine reg.wp_value (v:=.int .i64 s2.i) (w':=w') ?_ ⟨_,rfl,reg.Ext.refl _,rfl⟩
        intro ρ rc rf rg re
        rw [re] at s79 s72
        simp [execOp,go_sem,rc,rf,rg,s79,s72,q1] <;> first | omega | rfl | decide
       ·-- 25: slot 81:=Op.binOp BinOp.add 3 t80 (const (1:i64)) 3
        intro ra w' hx hs
        have s80:ra.eval (.tmp 80) = .int .i64 s2.i:=hs.1
        have s72:ra.eval (.tmp 72) = .bool true:=hs.2.1
        clear hs
        have q0:=hx.cell q0
        have q1:=hx.cell q1
        have x0:=hx.cell x0
        have r0:=hx.cell r0
        refine reg.want_yes rfl rfl rfl s72 rfl ?_
        change Oper.wp _ _ ra w' _ _
        refine reg.wp_value (v:=.int .i64 ((s2.i:Int) + 1)) (w':=w') ?_ ⟨_,rfl,reg.Ext.refl _,rfl⟩
        intro ρ rc rf rg re
        rw [re] at s80 s72
        simp [execOp,go_sem,rc,rf,rg,s80,s72,hiw] <;> first | omega | rfl | decide
       ·-- 26: slot 82:=Op.indexAddr 100 t76 t81
        intro ra w' hx hs
        have s76:ra.eval (.tmp 76) = .slice (some ⟨g,0,none⟩) E.ts.length cp:=hs.1
        have s81:ra.eval (.tmp 81) = .int .i64 ((s2.i:Int) + 1):=hs.2.1
        have s72:ra.eval (.tmp 72) = .bool true:=hs.2.2.1
        clear hs
        have q0:=hx.cell q0
        have q1:=hx.cell q1
        have x0:=hx.cell x0
        have r0:=hx.cell r0
        refine reg.want_yes rfl rfl rfl s72 rfl ?_
        change Oper.wp _ _ ra w' _ _
        refine reg.wp_value (v:=.pointer (some ⟨g,(s2.i + 1) * 4,none⟩)) (w':=w') ?_ ⟨_,rfl,reg.Ext.refl _,rfl⟩
        intro ρ rc rf rg re
        rw [re] at s76 s81 s72
        simp [execOp,go_sem,rc,rf,rg,s76,s81,s72,hlI,hi0,hin] <;> first | omega | rfl | decide
       ·-- 27: slot 83:=Op.fieldAddr 98 t82 0
        intro ra w' hx hs
        have s82:ra.eval (.tmp 82) = .pointer (some ⟨g,(s2.i + 1) * 4,none⟩):=hs.1
        have s72:ra.eval (.tmp 72) = .bool true:=hs.2.1
        clear hs
        have q0:=hx.cell q0
        have q1:=hx.cell q1
        have x0:=hx.cell x0
        have r0:=hx.cell r0
        refine reg.want_yes rfl rfl rfl s72 rfl ?_
        change Oper.wp _ _ ra w' _ _
        refine reg.wp_value (v:=.pointer (some ⟨g,(s2.i + 1) * 4,none⟩)) (w':=w') ?_ ⟨_,rfl,reg.Ext.refl _,rfl⟩
        intro ρ rc rf rg re
        rw [re] at s82 s72
        simp [execOp,go_sem,rc,rf,rg,s82,s72] <;> first | omega | rfl | decide
       ·-- 28: slot 84:=Op.load 3 t83
        intro ra w' hx hs
        have s83:ra.eval (.tmp 83) = .pointer (some ⟨g,(s2.i + 1) * 4,none⟩):=hs.1
        have s72:ra.eval (.tmp 72) = .bool true:=hs.2.1
        clear hs
        have q0:=hx.cell q0
        have q1:=hx.cell q1
        have x0:=hx.cell x0
        have r0:=hx.cell r0
        refine reg.want_yes rfl rfl rfl s72 rfl ?_
        change Oper.wp _ _ ra w' _ _
        refine reg.wp_value (v:=.int .i64 k1) (w':=w') ?_ ⟨_,rfl,reg.Ext.refl _,rfl⟩
        intro ρ rc rf rg re
        rw [re] at s83 s72
        simp [execOp,go_sem,rc,rf,rg,s83,s72,x0] <;> first | omega | rfl | decide
       ·-- 29: slot 85:=Op.binOp BinOp.eql 3 t84 (const (4:i64)) 3
        intro ra w' hx hs
        have s84:ra.eval (.tmp 84) = .int .i64 k1:=hs.1
        have s72:ra.eval (.tmp 72) = .bool true:=hs.2.1
        clear hs
        have q0:=hx.cell q0
        have q1:=hx.cell q1
        have x0:=hx.cell x0
        have r0:=hx.cell r0
        refine reg.want_yes rfl rfl rfl s72 rfl ?_
        change Oper.wp _ _ ra w' _ _
        refine reg.wp_value (v:=.bool false) (w':=w') ?_ ⟨_,rfl,reg.Ext.refl _,rfl⟩
        intro ρ rc rf rg re
        rw [re] at s84 s72
        simp [execOp,go_sem,rc,rf,rg,s84,s72,hkb] <;> first | omega | rfl | decide
       ·-- 30: slot 86:=Op.pick t72 t85 (const (Value.bool false))
        intro ra w' hx hs
        have s72:ra.eval (.tmp 72) = .bool true:=hs.1
        have s85:ra.eval (.tmp 85) = .bool false:=hs.2.1
        clear hs
        have q0:=hx.cell q0
        have q1:=hx.cell q1
        have x0:=hx.cell x0
        have r0:=hx.cell r0
        change Oper.wp _ _ ra w' _ _
        refine reg.wp_value (v:=.bool false) (w':=w') ?_ ⟨_,rfl,reg.Ext.refl _,rfl⟩
        intro ρ rc rf rg re
        rw [re] at s72 s85
        simp [execOp,go_sem,rc,rf,rg,s72,s85] <;> first | omega | rfl | decide
       ·-- 31: slot 87:=Op.move t86
        intro ra w' hx hs
        have s86:ra.eval (.tmp 86) = .bool false:=hs.1
        clear hs
        have q0:=hx.cell q0
        have q1:=hx.cell q1
        have x0:=hx.cell x0
        have r0:=hx.cell r0
        change Oper.wp _ _ ra w' _ _
        refine reg.wp_value (v:=.bool false) (w':=w') ?_ ⟨_,rfl,reg.Ext.refl _,rfl⟩
        intro ρ rc rf rg re
        rw [re] at s86
        simp [execOp,go_sem,rc,rf,rg,s86] <;> first | omega | rfl | decide
       ·-- 32: slot 88:=Op.move t0
        intro ra w' hx hs
        have s0:ra.eval (.tmp 0) = PP p:=hs.1
        have s87:ra.eval (.tmp 87) = .bool false:=hs.2.1
        clear hs
        have q0:=hx.cell q0
        have q1:=hx.cell q1
        have x0:=hx.cell x0
        have r0:=hx.cell r0
        exact reg.want_no rfl rfl rfl s87 (by decide) rfl
       ·-- 33: slot 89:=Op.nilCheck t88
        intro ra w' hx hs
        have s88:ra.eval (.tmp 88) = undef:=hs.1
        have s87:ra.eval (.tmp 87) = .bool false:=hs.2.1
        clear hs
        have q0:=hx.cell q0
        have q1:=hx.cell q1
        have x0:=hx.cell x0
        have r0:=hx.cell r0
        exact reg.want_no rfl rfl rfl s87 (by decide) rfl
       ·-- 34: slot 90:=Op.fieldAddr 102 t89 0
        intro ra w' hx hs
        have s89:ra.eval (.tmp 89) = undef:=hs.1
        have s87:ra.eval (.tmp 87) = .bool false:=hs.2.1
        clear hs
        have q0:=hx.cell q0
        have q1:=hx.cell q1
        have x0:=hx.cell x0
        have r0:=hx.cell r0
        exact reg.want_no rfl rfl rfl s87 (by decide) rfl
       ·-- 35: slot 91:=Op.load 100 t90
        intro ra w' hx hs
        have s90:ra.eval (.tmp 90) = undef:=hs.1
        have s87:ra.eval (.tmp 87) = .bool false:=hs.2.1
        clear hs
        have q0:=hx.cell q0
        have q1:=hx.cell q1
        have x0:=hx.cell x0
        have r0:=hx.cell r0
        exact reg.want_no rfl rfl rfl s87 (by decide) rfl
       ·-- 36: slot 92:=Op.move t0
        intro ra w' hx hs
        have s0:ra.eval (.tmp 0) = PP p:=hs.1
        have s87:ra.eval (.tmp 87) = .bool false:=hs.2.1
        clear hs
        have q0:=hx.cell q0
        have q1:=hx.cell q1
        have x0:=hx.cell x0
        have r0:=hx.cell r0
        exact reg.want_no rfl rfl rfl s87 (by decide) rfl
       ·-- 37: slot 93:=Op.nilCheck t92
        intro ra w' hx hs
        have s92:ra.eval (.tmp 92) = undef:=hs.1
        have s87:ra.eval (.tmp 87) = .bool false:=hs.2.1
        clear hs
        have q0:=hx.cell q0
        have q1:=hx.cell q1
        have x0:=hx.cell x0
        have r0:=hx.cell r0
        exact reg.want_no rfl rfl rfl s87 (by decide) rfl
       ·-- 38: slot 94:=Op.fieldAddr 102 t93 1
        intro ra w' hx hs
        have s93:ra.eval (.tmp 93) = undef:=hs.1
        have s87:ra.eval (.tmp 87) = .bool false:=hs.2.1
        clear hs
        have q0:=hx.cell q0
        have q1:=hx.cell q1
        have x0:=hx.cell x0
        have r0:=hx.cell r0
        exact reg.want_no rfl rfl rfl s87 (by decide) rfl
       ·-- 39: slot 95:=Op.load 3 t94
        intro ra w' hx hs
        have s94:ra.eval (.tmp 94) = undef:=hs.1
        have s87:ra.eval (.tmp 87) = .bool false:=hs.2.1
        clear hs
        have q0:=hx.cell q0
        have q1:=hx.cell q1
        have x0:=hx.cell x0
        have r0:=hx.cell r0
        exact reg.want_no rfl rfl rfl s87 (by decide) rfl
       ·-- 40: slot 96:=Op.binOp BinOp.add 3 t95 (const (1:i64)) 3
        intro ra w' hx hs
        have s95:ra.eval (.tmp 95) = undef:=hs.1
        have s87:ra.eval (.tmp 87) = .bool false:=hs.2.1
        clear hs
        have q0:=hx.cell q0
        have q1:=hx.cell q1
        have x0:=hx.cell x0
        have r0:=hx.cell r0
        exact reg.want_no rfl rfl rfl s87 (by decide) rfl
       ·-- 41: slot 97:=Op.indexAddr 100 t91 t96
        intro ra w' hx hs
        have s91:ra.eval (.tmp 91) = undef:=hs.1
        have s96:ra.eval (.tmp 96) = undef:=hs.2.1
        have s87:ra.eval (.tmp 87) = .bool false:=hs.2.2.1
        clear hs
        have q0:=hx.cell q0
        have q1:=hx.cell q1
        have x0:=hx.cell x0
        have r0:=hx.cell r0
        exact reg.want_no rfl rfl rfl s87 (by decide) rfl
       ·-- 42: slot 98:=Op.fieldAddr 98 t97 1
        intro ra w' hx hs
        have s97:ra.eval (.tmp 97) = undef:=hs.1
        have s87:ra.eval (.tmp 87) = .bool false:=hs.2.1
        clear hs
        have q0:=hx.cell q0
        have q1:=hx.cell q1
        have x0:=hx.cell x0
        have r0:=hx.cell r0
        exact reg.want_no rfl rfl rfl s87 (by decide) rfl
       ·-- 43: slot 99:=Op.load 9 t98
        intro ra w' hx hs
        have s98:ra.eval (.tmp 98) = undef:=hs.1
        have s87:ra.eval (.tmp 87) = .bool false:=hs.2.1
        clear hs
        have q0:=hx.cell q0
        have q1:=hx.cell q1
        have x0:=hx.cell x0
        have r0:=hx.cell r0
        exact reg.want_no rfl rfl rfl s87 (by decide) rfl
       ·-- 44: slot 100:=Op.binOp BinOp.eql 9 t99 (const (Value.string { data := #[40] })) 9
        intro ra w' hx hs
        have s99:ra.eval (.tmp 99) = undef:=hs.1
        have s87:ra.eval (.tmp 87) = .bool false:=hs.2.1
        clear hs
        have q0:=hx.cell q0
        have q1:=hx.cell q1
        have x0:=hx.cell x0
        have r0:=hx.cell r0
        exact reg.want_no rfl rfl rfl s87 (by decide) rfl
       ·-- 45: slot 101:=Op.pick t87 t100 (const (Value.bool false))
        intro ra w' hx hs
        have s87:ra.eval (.tmp 87) = .bool false:=hs.1
        have s100:ra.eval (.tmp 100) = undef:=hs.2.1
        clear hs
        have q0:=hx.cell q0
        have q1:=hx.cell q1
        have x0:=hx.cell x0
        have r0:=hx.cell r0
        change Oper.wp _ _ ra w' _ _
        refine reg.wp_value (v:=.bool false) (w':=w') ?_ ⟨_,rfl,reg.Ext.refl _,rfl⟩
        intro ρ rc rf rg re
        rw [re] at s87 s100
        simp [execOp,go_sem,rc,rf,rg,s87,s100] <;> first | omega | rfl | decide
       ·-- 46: slot 55:=Op.assign t101
        intro ra w' hx hs
        have s101:ra.eval (.tmp 101) = .bool false:=hs.1
        clear hs
        have q0:=hx.cell q0
        have q1:=hx.cell q1
        have x0:=hx.cell x0
        have r0:=hx.cell r0
        change Oper.wp _ _ ra w' _ _
        refine reg.wp_value (v:=.bool false) (w':=w') ?_ ⟨_,rfl,reg.Ext.refl _,rfl⟩
        intro ρ rc rf rg re
        rw [re] at s101
        simp [execOp,go_sem,rc,rf,rg,s101] <;> first | omega | rfl | decide
      intro rV w6 hx6 hf
      have ve0:rV 0 = .pointer (some ⟨bt,0,none⟩):=hf 0 (by decide)
      have ve1:rV 1 = .int .i64 1:=hf 1 (by decide)
      have ve2:rV 2 = .bool true:=hf 2 (by decide)
      have ve3:rV 3 = .bool true:=hf 3 (by decide)
      have ve4:rV 4 = PP p:=hf 4 (by decide)
      have ve5:rV 5 = .pointer (some ⟨p,0,none⟩):=hf 5 (by decide)
      have ve6:rV 6 = .pointer (some ⟨p,1,none⟩):=hf 6 (by decide)
      have ve7:rV 7 = .int .i64 s2.i:=hf 7 (by decide)
      have ve8:rV 8 = .int .i64 ((s2.i:Int) + 1):=hf 8 (by decide)
      have ve9:rV 9 = PP p:=hf 9 (by decide)
      have ve10:rV 10 = .pointer (some ⟨p,0,none⟩):=hf 10 (by decide)
      have ve11:rV 11 = .pointer (some ⟨p,0,none⟩):=hf 11 (by decide)
      have ve12:rV 12 = .slice (some ⟨g,0,none⟩) E.ts.length cp:=hf 12 (by decide)
      have ve13:rV 13 = .int .i64 E.ts.length:=hf 13 (by decide)
      have ve14:rV 14 = .bool true:=hf 14 (by decide)
      have ve15:rV 15 = .bool true:=hf 15 (by decide)
      have ve16:rV 16 = .bool true:=hf 16 (by decide)
      have ve17:rV 17 = PP p:=hf 17 (by decide)
      have ve18:rV 18 = .pointer (some ⟨p,0,none⟩):=hf 18 (by decide)
      have ve19:rV 19 = .pointer (some ⟨p,0,none⟩):=hf 19 (by decide)
      have ve20:rV 20 = .slice (some ⟨g,0,none⟩) E.ts.length cp:=hf 20 (by decide)
      have ve21:rV 21 = PP p:=hf 21 (by decide)
      have ve22:rV 22 = .pointer (some ⟨p,0,none⟩):=hf 22 (by decide)
      have ve23:rV 23 = .pointer (some ⟨p,1,none⟩):=hf 23 (by decide)
      have ve24:rV 24 = .int .i64 s2.i:=hf 24 (by decide)
      have ve25:rV 25 = .int .i64 ((s2.i:Int) + 1):=hf 25 (by decide)
      have ve26:rV 26 = .pointer (some ⟨g,(s2.i + 1) * 4,none⟩):=hf 26 (by decide)
      have ve27:rV 27 = .pointer (some ⟨g,(s2.i + 1) * 4,none⟩):=hf 27 (by decide)
      have ve28:rV 28 = .int .i64 k1:=hf 28 (by decide)
      have ve29:rV 29 = .bool false:=hf 29 (by decide)
      have ve30:rV 30 = .bool false:=hf 30 (by decide)
      have ve31:rV 31 = .bool false:=hf 31 (by decide)
      have ve32:rV 32 = undef:=hf 32 (by decide)
      have ve33:rV 33 = undef:=hf 33 (by decide)
      have ve34:rV 34 = undef:=hf 34 (by decide)
      have ve35:rV 35 = undef:=hf 35 (by decide)
      have ve36:rV 36 = undef:=hf 36 (by decide)
      have ve37:rV 37 = undef:=hf 37 (by decide)
      have ve38:rV 38 = undef:=hf 38 (by decide)
      have ve39:rV 39 = undef:=hf 39 (by decide)
      have ve40:rV 40 = undef:=hf 40 (by decide)
      have ve41:rV 41 = undef:=hf 41 (by decide)
      have ve42:rV 42 = undef:=hf 42 (by decide)
      have ve43:rV 43 = undef:=hf 43 (by decide)
      have ve44:rV 44 = undef:=hf 44 (by decide)
      have ve45:rV 45 = .bool false:=hf 45 (by decide)
      have ve46:rV 46 = .bool false:=hf 46 (by decide)
      clear hf
      simp only [List.zipIdx_cons,List.zipIdx_nil,List.foldl_cons,List.foldl_nil,Act.put,Nat.reduceAdd,List.setIfInBounds_toArray,List.set_cons_succ,List.set_cons_zero,ve0,ve1,ve2,ve3,ve4,ve5,ve6,ve7,ve8,ve9,ve10,ve11,ve12,ve13,ve14,ve15,ve16,ve17,ve18,ve19,ve20,ve21,ve22,ve23,ve24,ve25,ve26,ve27,ve28,ve29,ve30,ve31,ve32,ve33,ve34,ve35,ve36,ve37,ve38,ve39,ve40,ve41,ve42,ve43,ve44,ve45,ve46]
      clear ve0 ve1 ve2 ve3 ve4 ve5 ve6 ve7 ve8 ve9 ve10 ve11 ve12 ve13 ve14 ve15 ve16 ve17 ve18 ve19 ve20 ve21 ve22 ve23 ve24 ve25 ve26 ve27 ve28 ve29 ve30 ve31 ve32 ve33 ve34 ve35 ve36 ve37 ve38 ve39 ve40 ve41 ve42 ve43 ve44 ve45 ve46
      clear rV
      go_wp2_with fail
      go_meet
      exact ⟨by rfl,HSq.out.below (ext_below hx6)⟩
   ·obtain rfl:c = false:=HC.out.trans (called_no hlt)
    have hlI2:¬ ((s2.i:Int) + 1) < (E.ts.length:Int):=by omega
    have hlI:decide (((s2.i:Int) + 1) < (E.ts.length:Int)) = false:=decide_eq_false hlI2
    obtain ⟨a1,c1,hv⟩:=HROW.out.slice
    rw [hv] at q0
    have hiw:IntKind.i64.wrap ((s2.i:Int) + 1) = (s2.i:Int) + 1:=IntWalk.i64_in _ (by omega)
    have hi0:0 ≤ (s2.i:Int) + 1:=by omega
    have hin:((s2.i:Int) + 1).toNat = s2.i + 1:=by omega
    clear HC hv
    refine reg.region_each (by kernel_rfl) reg.Ext (fun ri v w'=>match ri with
      | 0=>v = .pointer (some ⟨bt,0,none⟩)
      | 1=>v = .int .i64 1
      | 2=>v = .bool true
      | 3=>v = .bool true
      | 4=>v = PP p
      | 5=>v = .pointer (some ⟨p,0,none⟩)
      | 6=>v = .pointer (some ⟨p,1,none⟩)
      | 7=>v = .int .i64 s2.i
      | 8=>v = .int .i64 ((s2.i:Int) + 1)
      | 9=>v = PP p
      | 10=>v = .pointer (some ⟨p,0,none⟩)
      | 11=>v = .pointer (some ⟨p,0,none⟩)
      | 12=>v = .slice a1 E.ts.length c1
      | 13=>v = .int .i64 E.ts.length
      | 14=>v = .bool false
      | 15=>v = .bool false
      | 16=>v = .bool false
      | 17=>v = undef
      | 18=>v = undef
      | 19=>v = undef
      | 20=>v = undef
      | 21=>v = undef
      | 22=>v = undef
      | 23=>v = undef
      | 24=>v = undef
      | 25=>v = undef
      | 26=>v = undef
      | 27=>v = undef
      | 28=>v = undef
      | 29=>v = undef
      | 30=>v = .bool false
      | 31=>v = .bool false
      | 32=>v = undef
      | 33=>v = undef
      | 34=>v = undef
      | 35=>v = undef
      | 36=>v = undef
      | 37=>v = undef
      | 38=>v = undef
      | 39=>v = undef
      | 40=>v = undef
      | 41=>v = undef
      | 42=>v = undef
      | 43=>v = undef
      | 44=>v = undef
      | 45=>v = .bool false
      | 46=>v = .bool false
      | _=>True) reg.Ext.refl reg.Ext.trans ?_ (by kernel_rfl) ?_ ?_
    ·
     intro i v w1 w2 h hx
     rcases i with _|_|_|_|_|_|_|_|_|_|_|_|_|_|_|_|_|_|_|_|_|_|_|_|_|_|_|_|_|_|_|_|_|_|_|_|_|_|_|_|_|_|_|_|_|_|_|i
     ·exact h
     ·exact h
     ·exact h
     ·exact h
     ·exact h
     ·exact h
     ·exact h
     ·exact h
     ·exact h
     ·exact h
     ·exact h
     ·exact h
     ·exact h
     ·exact h
     ·exact h
     ·exact h
     ·exact h
     ·exact h
     ·exact h
     ·exact h
     ·exact h
     ·exact h
     ·exact h
     ·exact h
     ·exact h
     ·exact h
     ·exact h
     ·exact h
     ·exact h
     ·exact h
     ·exact h
     ·exact h
     ·exact h
     ·exact h
     ·exact h
     ·exact h
     ·exact h
     ·exact h
     ·exact h
     ·exact h
     ·exact h
     ·exact h
     ·exact h
     ·exact h
     ·exact h
     ·exact h
     ·exact h
     ·trivial
    ·
     refine ⟨?_,?_,?_,?_,?_,?_,?_,?_,?_,?_,?_,?_,?_,?_,?_,?_,?_,?_,?_,?_,?_,?_,?_,?_,?_,?_,?_,?_,?_,?_,?_,?_,?_,?_,?_,?_,?_,?_,?_,?_,?_,?_,?_,?_,?_,?_,?_,trivial⟩
     ·-- 0: slot 56:=Op.fieldAddr 98 t3 0
      intro ra w' hx hs
      have s3:ra.eval (.tmp 3) = .pointer (some ⟨bt,0,none⟩):=hs.1
      clear hs
      have q0:=hx.cell q0
      have q1:=hx.cell q1
      have r0:=hx.cell r0
      change Oper.wp _ _ ra w' _ _
      refine reg.wp_value (v:=.pointer (some ⟨bt,0,none⟩)) (w':=w') ?_ ⟨_,rfl,reg.Ext.refl _,rfl⟩
      intro ρ rc rf rg re
      rw [re] at s3
      simp [execOp,go_sem,rc,rf,rg,s3] <;> first | omega | rfl | decide
     ·-- 1: slot 57:=Op.load 3 t56
      intro ra w' hx hs
      have s56:ra.eval (.tmp 56) = .pointer (some ⟨bt,0,none⟩):=hs.1
      clear hs
      have q0:=hx.cell q0
      have q1:=hx.cell q1
      have r0:=hx.cell r0
      change Oper.wp _ _ ra w' _ _
      refine reg.wp_value (v:=.int .i64 1) (w':=w') ?_ ⟨_,rfl,reg.Ext.refl _,rfl⟩
      intro ρ rc rf rg re
      rw [re] at s56
      simp [execOp,go_sem,rc,rf,rg,s56,r0] <;> first | omega | rfl | decide
     ·-- 2: slot 58:=Op.binOp BinOp.eql 3 t57 (const (1:i64)) 3
      intro ra w' hx hs
      have s57:ra.eval (.tmp 57) = .int .i64 1:=hs.1
      clear hs
      have q0:=hx.cell q0
      have q1:=hx.cell q1
      have r0:=hx.cell r0
      change Oper.wp _ _ ra w' _ _
      refine reg.wp_value (v:=.bool true) (w':=w') ?_ ⟨_,rfl,reg.Ext.refl _,rfl⟩
      intro ρ rc rf rg re
      rw [re] at s57
      simp [execOp,go_sem,rc,rf,rg,s57,hkd] <;> first | omega | rfl | decide
     ·-- 3: slot 59:=Op.move t58
      intro ra w' hx hs
      have s58:ra.eval (.tmp 58) = .bool true:=hs.1
      clear hs
      have q0:=hx.cell q0
      have q1:=hx.cell q1
      have r0:=hx.cell r0
      change Oper.wp _ _ ra w' _ _
      refine reg.wp_value (v:=.bool true) (w':=w') ?_ ⟨_,rfl,reg.Ext.refl _,rfl⟩
      intro ρ rc rf rg re
      rw [re] at s58
      simp [execOp,go_sem,rc,rf,rg,s58] <;> first | omega | rfl | decide
     ·-- 4: slot 60:=Op.move t0
      intro ra w' hx hs
      have s0:ra.eval (.tmp 0) = PP p:=hs.1
      have s59:ra.eval (.tmp 59) = .bool true:=hs.2.1
      clear hs
      have q0:=hx.cell q0
      have q1:=hx.cell q1
      have r0:=hx.cell r0
      refine reg.want_yes rfl rfl rfl s59 rfl ?_
      change Oper.wp _ _ ra w' _ _
      refine reg.wp_value (v:=PP p) (w':=w') ?_ ⟨_,rfl,reg.Ext.refl _,rfl⟩
      intro ρ rc rf rg re
      rw [re] at s0 s59
      simp [execOp,go_sem,rc,rf,rg,s0,s59] <;> first | omega | rfl | decide
     ·-- 5: slot 61:=Op.nilCheck t60
      intro ra w' hx hs
      have s60:ra.eval (.tmp 60) = PP p:=hs.1
      have s59:ra.eval (.tmp 59) = .bool true:=hs.2.1
      clear hs
      have q0:=hx.cell q0
      have q1:=hx.cell q1
      have r0:=hx.cell r0
      refine reg.want_yes rfl rfl rfl s59 rfl ?_
      change Oper.wp _ _ ra w' _ _
      refine reg.wp_value (v:=.pointer (some ⟨p,0,none⟩)) (w':=w') ?_ ⟨_,rfl,reg.Ext.refl _,rfl⟩
      intro ρ rc rf rg re
      rw [re] at s60 s59
      simp [execOp,go_sem,rc,rf,rg,s60,s59] <;> first | omega | rfl | decide
     ·-- 6: slot 62:=Op.fieldAddr 102 t61 1
      intro ra w' hx hs
      have s61:ra.eval (.tmp 61) = .pointer (some ⟨p,0,none⟩):=hs.1
      have s59:ra.eval (.tmp 59) = .bool true:=hs.2.1
      clear hs
      have q0:=hx.cell q0
      have q1:=hx.cell q1
      have r0:=hx.cell r0
      refine reg.want_yes rfl rfl rfl s59 rfl ?_
      change Oper.wp _ _ ra w' _ _
      refine reg.wp_value (v:=.pointer (some ⟨p,1,none⟩)) (w':=w') ?_ ⟨_,rfl,reg.Ext.refl _,rfl⟩
      intro ρ rc rf rg re
      rw [re] at s61 s59
      simp [execOp,go_sem,rc,rf,rg,s61,s59] <;> first | omega | rfl | decide
     ·-- 7: slot 63:=Op.load 3 t62
      intro ra w' hx hs
      have s62:ra.eval (.tmp 62) = .pointer (some ⟨p,1,none⟩):=hs.1
      have s59:ra.eval (.tmp 59) = .bool true:=hs.2.1
      clear hs
      have q0:=hx.cell q0
      have q1:=hx.cell q1
      have r0:=hx.cell r0
      refine reg.want_yes rfl rfl rfl s59 rfl ?_
      change Oper.wp _ _ ra w' _ _
      refine reg.wp_value (v:=.int .i64 s2.i) (w':=w') ?_ ⟨_,rfl,reg.Ext.refl _,rfl⟩
      intro ρ rc rf rg re
      rw [re] at s62 s59
      simp [execOp,go_sem,rc,rf,rg,s62,s59,q1] <;> first | omega | rfl | decide
     ·-- 8: slot 64:=Op.binOp BinOp.add 3 t63 (const (1:i64)) 3
      intro ra w' hx hs
      have s63:ra.eval (.tmp 63) = .int .i64 s2.i:=hs.1
      have s59:ra.eval (.tmp 59) = .bool true:=hs.2.1
      clear hs
      have q0:=hx.cell q0
      have q1:=hx.cell q1
      have r0:=hx.cell r0
      refine reg.want_yes rfl rfl rfl s59 rfl ?_
      change Oper.wp _ _ ra w' _ _
      refine reg.wp_value (v:=.int .i64 ((s2.i:Int) + 1)) (w':=w') ?_ ⟨_,rfl,reg.Ext.refl _,rfl⟩
      intro ρ rc rf rg re
      rw [re] at s63 s59
      simp [execOp,go_sem,rc,rf,rg,s63,s59,hiw] <;> first | omega | rfl | decide
     ·-- 9: slot 65:=Op.move t0
      intro ra w' hx hs
      have s0:ra.eval (.tmp 0) = PP p:=hs.1
      have s59:ra.eval (.tmp 59) = .bool true:=hs.2.1
      clear hs
      have q0:=hx.cell q0
      have q1:=hx.cell q1
      have r0:=hx.cell r0
      refine reg.want_yes rfl rfl rfl s59 rfl ?_
      change Oper.wp _ _ ra w' _ _
      refine reg.wp_value (v:=PP p) (w':=w') ?_ ⟨_,rfl,reg.Ext.refl _,rfl⟩
      intro ρ rc rf rg re
      rw [re] at s0 s59
      simp [execOp,go_sem,rc,rf,rg,s0,s59] <;> first | omega | rfl | decide
     ·-- 10: slot 66:=Op.nilCheck t65
      intro ra w' hx hs
      have s65:ra.eval (.tmp 65) = PP p:=hs.1
      have s59:ra.eval (.tmp 59) = .bool true:=hs.2.1
      clear hs
      have q0:=hx.cell q0
      have q1:=hx.cell q1
      have r0:=hx.cell r0
      refine reg.want_yes rfl rfl rfl s59 rfl ?_
      change Oper.wp _ _ ra w' _ _
      refine reg.wp_value (v:=.pointer (some ⟨p,0,none⟩)) (w':=w') ?_ ⟨_,rfl,reg.Ext.refl _,rfl⟩
      intro ρ rc rf rg re
      rw [re] at s65 s59
      simp [execOp,go_sem,rc,rf,rg,s65,s59] <;> first | omega | rfl | decide
     ·-- 11: slot 67:=Op.fieldAddr 102 t66 0
      intro ra w' hx hs
      have s66:ra.eval (.tmp 66) = .pointer (some ⟨p,0,none⟩):=hs.1
      have s59:ra.eval (.tmp 59) = .bool true:=hs.2.1
      clear hs
      have q0:=hx.cell q0
      have q1:=hx.cell q1
      have r0:=hx.cell r0
      refine reg.want_yes rfl rfl rfl s59 rfl ?_
      change Oper.wp _ _ ra w' _ _
      refine reg.wp_value (v:=.pointer (some ⟨p,0,none⟩)) (w':=w') ?_ ⟨_,rfl,reg.Ext.refl _,rfl⟩
      intro ρ rc rf rg re
      rw [re] at s66 s59
      simp [execOp,go_sem,rc,rf,rg,s66,s59] <;> first | omega | rfl | decide
     ·-- 12: slot 68:=Op.load 100 t67
      intro ra w' hx hs
      have s67:ra.eval (.tmp 67) = .pointer (some ⟨p,0,none⟩):=hs.1
      have s59:ra.eval (.tmp 59) = .bool true:=hs.2.1
      clear hs
      have q0:=hx.cell q0
      have q1:=hx.cell q1
      have r0:=hx.cell r0
      refine reg.want_yes rfl rfl rfl s59 rfl ?_
      change Oper.wp _ _ ra w' _ _
      refine reg.wp_value (v:=.slice a1 E.ts.length c1) (w':=w') ?_ ⟨_,rfl,reg.Ext.refl _,rfl⟩
      intro ρ rc rf rg re
      rw [re] at s67 s59
      simp [execOp,go_sem,rc,rf,rg,s67,s59,q0] <;> first | omega | rfl | decide
     ·-- 13: slot 69:=Op.call { builtin len,args := #[t68],argTypes := #[100] }
      intro ra w' hx hs
      have s68:ra.eval (.tmp 68) = .slice a1 E.ts.length c1:=hs.1
      have s59:ra.eval (.tmp 59) = .bool true:=hs.2.1
      clear hs
      have q0:=hx.cell q0
      have q1:=hx.cell q1
      have r0:=hx.cell r0
      refine reg.want_yes rfl rfl rfl s59 rfl ?_
      change Oper.wp _ _ ra w' _ _
      refine reg.wp_value (v:=.int .i64 E.ts.length) (w':=w') ?_ ⟨_,rfl,reg.Ext.refl _,rfl⟩
      intro ρ rc rf rg re
      rw [re] at s68 s59
      simp [execOp,go_sem,rc,rf,rg,s68,s59] <;> first | omega | rfl | decide
     ·-- 14: slot 70:=Op.binOp BinOp.lss 3 t64 t69 3
      intro ra w' hx hs
      have s64:ra.eval (.tmp 64) = .int .i64 ((s2.i:Int) + 1):=hs.1
      have s69:ra.eval (.tmp 69) = .int .i64 E.ts.length:=hs.2.1
      have s59:ra.eval (.tmp 59) = .bool true:=hs.2.2.1
      clear hs
      have q0:=hx.cell q0
      have q1:=hx.cell q1
      have r0:=hx.cell r0
      refine reg.want_yes rfl rfl rfl s59 rfl ?_
      change Oper.wp _ _ ra w' _ _
      refine reg.wp_value (v:=.bool false) (w':=w') ?_ ⟨_,rfl,reg.Ext.refl _,rfl⟩
      intro ρ rc rf rg re
      rw [re] at s64 s69 s59
      simp [execOp,go_sem,rc,rf,rg,s64,s69,s59,hlI] <;> first | omega | rfl | decide
     ·-- 15: slot 71:=Op.pick t59 t70 (const (Value.bool false))
      intro ra w' hx hs
      have s59:ra.eval (.tmp 59) = .bool true:=hs.1
      have s70:ra.eval (.tmp 70) = .bool false:=hs.2.1
      clear hs
      have q0:=hx.cell q0
      have q1:=hx.cell q1
      have r0:=hx.cell r0
      change Oper.wp _ _ ra w' _ _
      refine reg.wp_value (v:=.bool false) (w':=w') ?_ ⟨_,rfl,reg.Ext.refl _,rfl⟩
      intro ρ rc rf rg re
      rw [re] at s59 s70
      simp [execOp,go_sem,rc,rf,rg,s59,s70] <;> first | omega | rfl | decide
     ·-- 16: slot 72:=Op.move t71
      intro ra w' hx hs
      have s71:ra.eval (.tmp 71) = .bool false:=hs.1
      clear hs
      have q0:=hx.cell q0
      have q1:=hx.cell q1
      have r0:=hx.cell r0
      change Oper.wp _ _ ra w' _ _
      refine reg.wp_value (v:=.bool false) (w':=w') ?_ ⟨_,rfl,reg.Ext.refl _,rfl⟩
      intro ρ rc rf rg re
      rw [re] at s71
      simp [execOp,go_sem,rc,rf,rg,s71] <;> first | omega | rfl | decide
     ·-- 17: slot 73:=Op.move t0
      intro ra w' hx hs
      have s0:ra.eval (.tmp 0) = PP p:=hs.1
      have s72:ra.eval (.tmp 72) = .bool false:=hs.2.1
      clear hs
      have q0:=hx.cell q0
      have q1:=hx.cell q1
      have r0:=hx.cell r0
      exact reg.want_no rfl rfl rfl s72 (by decide) rfl
     ·-- 18: slot 74:=Op.nilCheck t73
      intro ra w' hx hs
      have s73:ra.eval (.tmp 73) = undef:=hs.1
      have s72:ra.eval (.tmp 72) = .bool false:=hs.2.1
      clear hs
      have q0:=hx.cell q0
      have q1:=hx.cell q1
      have r0:=hx.cell r0
      exact reg.want_no rfl rfl rfl s72 (by decide) rfl
     ·-- 19: slot 75:=Op.fieldAddr 102 t74 0
      intro ra w' hx hs
      have s74:ra.eval (.tmp 74) = undef:=hs.1
      have s72:ra.eval (.tmp 72) = .bool false:=hs.2.1
      clear hs
      have q0:=hx.cell q0
      have q1:=hx.cell q1
      have r0:=hx.cell r0
      exact reg.want_no rfl rfl rfl s72 (by decide) rfl
     ·-- 20: slot 76:=Op.load 100 t75
      intro ra w' hx hs
      have s75:ra.eval (.tmp 75) = undef:=hs.1
      have s72:ra.eval (.tmp 72) = .bool false:=hs.2.1
      clear hs
      have q0:=hx.cell q0
      have q1:=hx.cell q1
      have r0:=hx.cell r0
      exact reg.want_no rfl rfl rfl s72 (by decide) rfl
     ·-- 21: slot 77:=Op.move t0
      intro ra w' hx hs
      have s0:ra.eval (.tmp 0) = PP p:=hs.1
      have s72:ra.eval (.tmp 72) = .bool false:=hs.2.1
      clear hs
      have q0:=hx.cell q0
      have q1:=hx.cell q1
      have r0:=hx.cell r0
      exact reg.want_no rfl rfl rfl s72 (by decide) rfl
     ·-- 22: slot 78:=Op.nilCheck t77
      intro ra w' hx hs
      have s77:ra.eval (.tmp 77) = undef:=hs.1
      have s72:ra.eval (.tmp 72) = .bool false:=hs.2.1
      clear hs
      have q0:=hx.cell q0
      have q1:=hx.cell q1
      have r0:=hx.cell r0
      exact reg.want_no rfl rfl rfl s72 (by decide) rfl
     ·-- 23: slot 79:=Op.fieldAddr 102 t78 1
      intro ra w' hx hs
      have s78:ra.eval (.tmp 78) = undef:=hs.1
      have s72:ra.eval (.tmp 72) = .bool false:=hs.2.1
      clear hs
      have q0:=hx.cell q0
      have q1:=hx.cell q1
      have r0:=hx.cell r0
      exact reg.want_no rfl rfl rfl s72 (by decide) rfl
     ·-- 24: slot 80:=Op.load 3 t79
      intro ra w' hx hs
      have s79:ra.eval (.tmp 79) = undef:=hs.1
      have s72:ra.eval (.tmp 72) = .bool false:=hs.2.1
      clear hs
      have q0:=hx.cell q0
      have q1:=hx.cell q1
      have r0:=hx.cell r0
      exact reg.want_no rfl rfl rfl s72 (by decide) rfl
     ·-- 25: slot 81:=Op.binOp BinOp.add 3 t80 (const (1:i64)) 3
      intro ra w' hx hs
      have s80:ra.eval (.tmp 80) = undef:=hs.1
      have s72:ra.eval (.tmp 72) = .bool false:=hs.2.1
      clear hs
      have q0:=hx.cell q0
      have q1:=hx.cell q1
      have r0:=hx.cell r0
      exact reg.want_no rfl rfl rfl s72 (by decide) rfl
     ·-- 26: slot 82:=Op.indexAddr 100 t76 t81
      intro ra w' hx hs
      have s76:ra.eval (.tmp 76) = undef:=hs.1
      have s81:ra.eval (.tmp 81) = undef:=hs.2.1
      have s72:ra.eval (.tmp 72) = .bool false:=hs.2.2.1
      clear hs
      have q0:=hx.cell q0
      have q1:=hx.cell q1
      have r0:=hx.cell r0
      exact reg.want_no rfl rfl rfl s72 (by decide) rfl
     ·-- 27: slot 83:=Op.fieldAddr 98 t82 0
      intro ra w' hx hs
      have s82:ra.eval (.tmp 82) = undef:=hs.1
      have s72:ra.eval (.tmp 72) = .bool false:=hs.2.1
      clear hs
      have q0:=hx.cell q0
      have q1:=hx.cell q1
      have r0:=hx.cell r0
      exact reg.want_no rfl rfl rfl s72 (by decide) rfl
     ·-- 28: slot 84:=Op.load 3 t83
      intro ra w' hx hs
      have s83:ra.eval (.tmp 83) = undef:=hs.1
      have s72:ra.eval (.tmp 72) = .bool false:=hs.2.1
      clear hs
      have q0:=hx.cell q0
      have q1:=hx.cell q1
      have r0:=hx.cell r0
      exact reg.want_no rfl rfl rfl s72 (by decide) rfl
     ·-- 29: slot 85:=Op.binOp BinOp.eql 3 t84 (const (4:i64)) 3
      intro ra w' hx hs
      have s84:ra.eval (.tmp 84) = undef:=hs.1
      have s72:ra.eval (.tmp 72) = .bool false:=hs.2.1
      clear hs
      have q0:=hx.cell q0
      have q1:=hx.cell q1
      have r0:=hx.cell r0
      exact reg.want_no rfl rfl rfl s72 (by decide) rfl
     ·-- 30: slot 86:=Op.pick t72 t85 (const (Value.bool false))
      intro ra w' hx hs
      have s72:ra.eval (.tmp 72) = .bool false:=hs.1
      have s85:ra.eval (.tmp 85) = undef:=hs.2.1
      clear hs
      have q0:=hx.cell q0
      have q1:=hx.cell q1
      have r0:=hx.cell r0
      change Oper.wp _ _ ra w' _ _
      refine reg.wp_value (v:=.bool false) (w':=w') ?_ ⟨_,rfl,reg.Ext.refl _,rfl⟩
      intro ρ rc rf rg re
      rw [re] at s72 s85
      simp [execOp,go_sem,rc,rf,rg,s72,s85] <;> first | omega | rfl | decide
     ·-- 31: slot 87:=Op.move t86
      intro ra w' hx hs
      have s86:ra.eval (.tmp 86) = .bool false:=hs.1
      clear hs
      have q0:=hx.cell q0
      have q1:=hx.cell q1
      have r0:=hx.cell r0
      change Oper.wp _ _ ra w' _ _
      refine reg.wp_value (v:=.bool false) (w':=w') ?_ ⟨_,rfl,reg.Ext.refl _,rfl⟩
      intro ρ rc rf rg re
      rw [re] at s86
      simp [execOp,go_sem,rc,rf,rg,s86] <;> first | omega | rfl | decide
     ·-- 32: slot 88:=Op.move t0
      intro ra w' hx hs
      have s0:ra.eval (.tmp 0) = PP p:=hs.1
      have s87:ra.eval (.tmp 87) = .bool false:=hs.2.1
      clear hs
      have q0:=hx.cell q0
      have q1:=hx.cell q1
      have r0:=hx.cell r0
      exact reg.want_no rfl rfl rfl s87 (by decide) rfl
     ·-- 33: slot 89:=Op.nilCheck t88
      intro ra w' hx hs
      have s88:ra.eval (.tmp 88) = undef:=hs.1
      have s87:ra.eval (.tmp 87) = .bool false:=hs.2.1
      clear hs
      have q0:=hx.cell q0
      have q1:=hx.cell q1
      have r0:=hx.cell r0
      exact reg.want_no rfl rfl rfl s87 (by decide) rfl
     ·-- 34: slot 90:=Op.fieldAddr 102 t89 0
      intro ra w' hx hs
      have s89:ra.eval (.tmp 89) = undef:=hs.1
      have s87:ra.eval (.tmp 87) = .bool false:=hs.2.1
      clear hs
      have q0:=hx.cell q0
      have q1:=hx.cell q1
      have r0:=hx.cell r0
      exact reg.want_no rfl rfl rfl s87 (by decide) rfl
     ·-- 35: slot 91:=Op.load 100 t90
      intro ra w' hx hs
      have s90:ra.eval (.tmp 90) = undef:=hs.1
      have s87:ra.eval (.tmp 87) = .bool false:=hs.2.1
      clear hs
      have q0:=hx.cell q0
      have q1:=hx.cell q1
      have r0:=hx.cell r0
      exact reg.want_no rfl rfl rfl s87 (by decide) rfl
     ·-- 36: slot 92:=Op.move t0
      intro ra w' hx hs
      have s0:ra.eval (.tmp 0) = PP p:=hs.1
      have s87:ra.eval (.tmp 87) = .bool false:=hs.2.1
      clear hs
      have q0:=hx.cell q0
      have q1:=hx.cell q1
      have r0:=hx.cell r0
      exact reg.want_no rfl rfl rfl s87 (by decide) rfl
     ·-- 37: slot 93:=Op.nilCheck t92
      intro ra w' hx hs
      have s92:ra.eval (.tmp 92) = undef:=hs.1
      have s87:ra.eval (.tmp 87) = .bool false:=hs.2.1
      clear hs
      have q0:=hx.cell q0
      have q1:=hx.cell q1
      have r0:=hx.cell r0
      exact reg.want_no rfl rfl rfl s87 (by decide) rfl
     ·-- 38: slot 94:=Op.fieldAddr 102 t93 1
      intro ra w' hx hs
      have s93:ra.eval (.tmp 93) = undef:=hs.1
      have s87:ra.eval (.tmp 87) = .bool false:=hs.2.1
      clear hs
      have q0:=hx.cell q0
      have q1:=hx.cell q1
      have r0:=hx.cell r0
      exact reg.want_no rfl rfl rfl s87 (by decide) rfl
     ·-- 39: slot 95:=Op.load 3 t94
      intro ra w' hx hs
      have s94:ra.eval (.tmp 94) = undef:=hs.1
      have s87:ra.eval (.tmp 87) = .bool false:=hs.2.1
      clear hs
      have q0:=hx.cell q0
      have q1:=hx.cell q1
      have r0:=hx.cell r0
      exact reg.want_no rfl rfl rfl s87 (by decide) rfl
     ·-- 40: slot 96:=Op.binOp BinOp.add 3 t95 (const (1:i64)) 3
      intro ra w' hx hs
      have s95:ra.eval (.tmp 95) = undef:=hs.1
      have s87:ra.eval (.tmp 87) = .bool false:=hs.2.1
      clear hs
      have q0:=hx.cell q0
      have q1:=hx.cell q1
      have r0:=hx.cell r0
      exact reg.want_no rfl rfl rfl s87 (by decide) rfl
     ·-- 41: slot 97:=Op.indexAddr 100 t91 t96
      intro ra w' hx hs
      have s91:ra.eval (.tmp 91) = undef:=hs.1
      have s96:ra.eval (.tmp 96) = undef:=hs.2.1
      have s87:ra.eval (.tmp 87) = .bool false:=hs.2.2.1
      clear hs
      have q0:=hx.cell q0
      have q1:=hx.cell q1
      have r0:=hx.cell r0
      exact reg.want_no rfl rfl rfl s87 (by decide) rfl
     ·-- 42: slot 98:=Op.fieldAddr 98 t97 1
      intro ra w' hx hs
      have s97:ra.eval (.tmp 97) = undef:=hs.1
      have s87:ra.eval (.tmp 87) = .bool false:=hs.2.1
      clear hs
      have q0:=hx.cell q0
      have q1:=hx.cell q1
      have r0:=hx.cell r0
      exact reg.want_no rfl rfl rfl s87 (by decide) rfl
     ·-- 43: slot 99:=Op.load 9 t98
      intro ra w' hx hs
      have s98:ra.eval (.tmp 98) = undef:=hs.1
      have s87:ra.eval (.tmp 87) = .bool false:=hs.2.1
      clear hs
      have q0:=hx.cell q0
      have q1:=hx.cell q1
      have r0:=hx.cell r0
      exact reg.want_no rfl rfl rfl s87 (by decide) rfl
     ·-- 44: slot 100:=Op.binOp BinOp.eql 9 t99 (const (Value.string { data := #[40] })) 9
      intro ra w' hx hs
      have s99:ra.eval (.tmp 99) = undef:=hs.1
      have s87:ra.eval (.tmp 87) = .bool false:=hs.2.1
      clear hs
      have q0:=hx.cell q0
      have q1:=hx.cell q1
      have r0:=hx.cell r0
      exact reg.want_no rfl rfl rfl s87 (by decide) rfl
     ·-- 45: slot 101:=Op.pick t87 t100 (const (Value.bool false))
      intro ra w' hx hs
      have s87:ra.eval (.tmp 87) = .bool false:=hs.1
      have s100:ra.eval (.tmp 100) = undef:=hs.2.1
      clear hs
      have q0:=hx.cell q0
      have q1:=hx.cell q1
      have r0:=hx.cell r0
      change Oper.wp _ _ ra w' _ _
      refine reg.wp_value (v:=.bool false) (w':=w') ?_ ⟨_,rfl,reg.Ext.refl _,rfl⟩
      intro ρ rc rf rg re
      rw [re] at s87 s100
      simp [execOp,go_sem,rc,rf,rg,s87,s100] <;> first | omega | rfl | decide
     ·-- 46: slot 55:=Op.assign t101
      intro ra w' hx hs
      have s101:ra.eval (.tmp 101) = .bool false:=hs.1
      clear hs
      have q0:=hx.cell q0
      have q1:=hx.cell q1
      have r0:=hx.cell r0
      change Oper.wp _ _ ra w' _ _
      refine reg.wp_value (v:=.bool false) (w':=w') ?_ ⟨_,rfl,reg.Ext.refl _,rfl⟩
      intro ρ rc rf rg re
      rw [re] at s101
      simp [execOp,go_sem,rc,rf,rg,s101] <;> first | omega | rfl | decide
    intro rV w6 hx6 hf
    have ve0:rV 0 = .pointer (some ⟨bt,0,none⟩):=hf 0 (by decide)
    have ve1:rV 1 = .int .i64 1:=hf 1 (by decide)
    have ve2:rV 2 = .bool true:=hf 2 (by decide)
    have ve3:rV 3 = .bool true:=hf 3 (by decide)
    have ve4:rV 4 = PP p:=hf 4 (by decide)
    have ve5:rV 5 = .pointer (some ⟨p,0,none⟩):=hf 5 (by decide)
    have ve6:rV 6 = .pointer (some ⟨p,1,none⟩):=hf 6 (by decide)
    have ve7:rV 7 = .int .i64 s2.i:=hf 7 (by decide)
    have ve8:rV 8 = .int .i64 ((s2.i:Int) + 1):=hf 8 (by decide)
    have ve9:rV 9 = PP p:=hf 9 (by decide)
    have ve10:rV 10 = .pointer (some ⟨p,0,none⟩):=hf 10 (by decide)
    have ve11:rV 11 = .pointer (some ⟨p,0,none⟩):=hf 11 (by decide)
    have ve12:rV 12 = .slice a1 E.ts.length c1:=hf 12 (by decide)
    have ve13:rV 13 = .int .i64 E.ts.length:=hf 13 (by decide)
    have ve14:rV 14 = .bool false:=hf 14 (by decide)
    have ve15:rV 15 = .bool false:=hf 15 (by decide)
    have ve16:rV 16 = .bool false:=hf 16 (by decide)
    have ve17:rV 17 = undef:=hf 17 (by decide)
    have ve18:rV 18 = undef:=hf 18 (by decide)
    have ve19:rV 19 = undef:=hf 19 (by decide)
    have ve20:rV 20 = undef:=hf 20 (by decide)
    have ve21:rV 21 = undef:=hf 21 (by decide)
    have ve22:rV 22 = undef:=hf 22 (by decide)
    have ve23:rV 23 = undef:=hf 23 (by decide)
    have ve24:rV 24 = undef:=hf 24 (by decide)
    have ve25:rV 25 = undef:=hf 25 (by decide)
    have ve26:rV 26 = undef:=hf 26 (by decide)
    have ve27:rV 27 = undef:=hf 27 (by decide)
    have ve28:rV 28 = undef:=hf 28 (by decide)
    have ve29:rV 29 = undef:=hf 29 (by decide)
    have ve30:rV 30 = .bool false:=hf 30 (by decide)
    have ve31:rV 31 = .bool false:=hf 31 (by decide)
    have ve32:rV 32 = undef:=hf 32 (by decide)
    have ve33:rV 33 = undef:=hf 33 (by decide)
    have ve34:rV 34 = undef:=hf 34 (by decide)
    have ve35:rV 35 = undef:=hf 35 (by decide)
    have ve36:rV 36 = undef:=hf 36 (by decide)
    have ve37:rV 37 = undef:=hf 37 (by decide)
    have ve38:rV 38 = undef:=hf 38 (by decide)
    have ve39:rV 39 = undef:=hf 39 (by decide)
    have ve40:rV 40 = undef:=hf 40 (by decide)
    have ve41:rV 41 = undef:=hf 41 (by decide)
    have ve42:rV 42 = undef:=hf 42 (by decide)
    have ve43:rV 43 = undef:=hf 43 (by decide)
    have ve44:rV 44 = undef:=hf 44 (by decide)
    have ve45:rV 45 = .bool false:=hf 45 (by decide)
    have ve46:rV 46 = .bool false:=hf 46 (by decide)
    clear hf
    simp only [List.zipIdx_cons,List.zipIdx_nil,List.foldl_cons,List.foldl_nil,Act.put,Nat.reduceAdd,List.setIfInBounds_toArray,List.set_cons_succ,List.set_cons_zero,ve0,ve1,ve2,ve3,ve4,ve5,ve6,ve7,ve8,ve9,ve10,ve11,ve12,ve13,ve14,ve15,ve16,ve17,ve18,ve19,ve20,ve21,ve22,ve23,ve24,ve25,ve26,ve27,ve28,ve29,ve30,ve31,ve32,ve33,ve34,ve35,ve36,ve37,ve38,ve39,ve40,ve41,ve42,ve43,ve44,ve45,ve46]
    clear ve0 ve1 ve2 ve3 ve4 ve5 ve6 ve7 ve8 ve9 ve10 ve11 ve12 ve13 ve14 ve15 ve16 ve17 ve18 ve19 ve20 ve21 ve22 ve23 ve24 ve25 ve26 ve27 ve28 ve29 ve30 ve31 ve32 ve33 ve34 ve35 ve36 ve37 ve38 ve39 ve40 ve41 ve42 ve43 ve44 ve45 ve46
    clear rV
    go_wp2_with fail
    go_meet
    exact ⟨by rfl,HSq.out.below (ext_below hx6)⟩
  ·have hkd:(kd == 1) = false:=beq_eq_false_iff_ne.2 k1'
   clear HC k1' q0 q1
   refine reg.region_each (by kernel_rfl) reg.Ext (fun ri v w'=>match ri with
     | 0=>v = .pointer (some ⟨bt,0,none⟩)
     | 1=>v = .int .i64 kd
     | 2=>v = .bool false
     | 3=>v = .bool false
     | 4=>v = undef
     | 5=>v = undef
     | 6=>v = undef
     | 7=>v = undef
     | 8=>v = undef
     | 9=>v = undef
     | 10=>v = undef
     | 11=>v = undef
     | 12=>v = undef
     | 13=>v = undef
     | 14=>v = undef
     | 15=>v = .bool false
     | 16=>v = .bool false
     | 17=>v = undef
     | 18=>v = undef
     | 19=>v = undef
     | 20=>v = undef
     | 21=>v = undef
     | 22=>v = undef
     | 23=>v = undef
     | 24=>v = undef
     | 25=>v = undef
     | 26=>v = undef
     | 27=>v = undef
     | 28=>v = undef
     | 29=>v = undef
     | 30=>v = .bool false
     | 31=>v = .bool false
     | 32=>v = undef
     | 33=>v = undef
     | 34=>v = undef
     | 35=>v = undef
     | 36=>v = undef
     | 37=>v = undef
     | 38=>v = undef
     | 39=>v = undef
     | 40=>v = undef
     | 41=>v = undef
     | 42=>v = undef
     | 43=>v = undef
     | 44=>v = undef
     | 45=>v = .bool false
     | 46=>v = .bool false
     | _=>True) reg.Ext.refl reg.Ext.trans ?_ (by kernel_rfl) ?_ ?_
   ·
    intro i v w1 w2 h hx
    rcases i with _|_|_|_|_|_|_|_|_|_|_|_|_|_|_|_|_|_|_|_|_|_|_|_|_|_|_|_|_|_|_|_|_|_|_|_|_|_|_|_|_|_|_|_|_|_|_|i
    ·exact h
    ·exact h
    ·exact h
    ·exact h
    ·exact h
    ·exact h
    ·exact h
    ·exact h
    ·exact h
    ·exact h
    ·exact h
    ·exact h
    ·exact h
    ·exact h
    ·exact h
    ·exact h
    ·exact h
    ·exact h
    ·exact h
    ·exact h
    ·exact h
    ·exact h
    ·exact h
    ·exact h
    ·exact h
    ·exact h
    ·exact h
    ·exact h
    ·exact h
    ·exact h
    ·exact h
    ·exact h
    ·exact h
    ·exact h
    ·exact h
    ·exact h
    ·exact h
    ·exact h
    ·exact h
    ·exact h
    ·exact h
    ·exact h
    ·exact h
    ·exact h
    ·exact h
    ·exact h
    ·exact h
    ·trivial
   ·
    refine ⟨?_,?_,?_,?_,?_,?_,?_,?_,?_,?_,?_,?_,?_,?_,?_,?_,?_,?_,?_,?_,?_,?_,?_,?_,?_,?_,?_,?_,?_,?_,?_,?_,?_,?_,?_,?_,?_,?_,?_,?_,?_,?_,?_,?_,?_,?_,?_,trivial⟩
    ·-- 0: slot 56:=Op.fieldAddr 98 t3 0
     intro ra w' hx hs
     have s3:ra.eval (.tmp 3) = .pointer (some ⟨bt,0,none⟩):=hs.1
     clear hs
     have r0:=hx.cell r0
     change Oper.wp _ _ ra w' _ _
     refine reg.wp_value (v:=.pointer (some ⟨bt,0,none⟩)) (w':=w') ?_ ⟨_,rfl,reg.Ext.refl _,rfl⟩
     intro ρ rc rf rg re
     rw [re] at s3
     simp [execOp,go_sem,rc,rf,rg,s3] <;> first | omega | rfl | decide
    ·-- 1: slot 57:=Op.load 3 t56
     intro ra w' hx hs
     have s56:ra.eval (.tmp 56) = .pointer (some ⟨bt,0,none⟩):=hs.1
     clear hs
     have r0:=hx.cell r0
     change Oper.wp _ _ ra w' _ _
     refine reg.wp_value (v:=.int .i64 kd) (w':=w') ?_ ⟨_,rfl,reg.Ext.refl _,rfl⟩
     intro ρ rc rf rg re
     rw [re] at s56
     simp [execOp,go_sem,rc,rf,rg,s56,r0] <;> first | omega | rfl | decide
    ·-- 2: slot 58:=Op.binOp BinOp.eql 3 t57 (const (1:i64)) 3
     intro ra w' hx hs
     have s57:ra.eval (.tmp 57) = .int .i64 kd:=hs.1
     clear hs
     have r0:=hx.cell r0
     change Oper.wp _ _ ra w' _ _
     refine reg.wp_value (v:=.bool false) (w':=w') ?_ ⟨_,rfl,reg.Ext.refl _,rfl⟩
     intro ρ rc rf rg re
     rw [re] at s57
     simp [execOp,go_sem,rc,rf,rg,s57,hkd] <;> first | omega | rfl | decide
    ·-- 3: slot 59:=Op.move t58
     intro ra w' hx hs
     have s58:ra.eval (.tmp 58) = .bool false:=hs.1
     clear hs
     have r0:=hx.cell r0
     change Oper.wp _ _ ra w' _ _
     refine reg.wp_value (v:=.bool false) (w':=w') ?_ ⟨_,rfl,reg.Ext.refl _,rfl⟩
     intro ρ rc rf rg re
     rw [re] at s58
     simp [execOp,go_sem,rc,rf,rg,s58] <;> first | omega | rfl | decide
    ·-- 4: slot 60:=Op.move t0
     intro ra w' hx hs
     have s0:ra.eval (.tmp 0) = PP p:=hs.1
     have s59:ra.eval (.tmp 59) = .bool false:=hs.2.1
     clear hs
     have r0:=hx.cell r0
     exact reg.want_no rfl rfl rfl s59 (by decide) rfl
    ·-- 5: slot 61:=Op.nilCheck t60
     intro ra w' hx hs
     have s60:ra.eval (.tmp 60) = undef:=hs.1
     have s59:ra.eval (.tmp 59) = .bool false:=hs.2.1
     clear hs
     have r0:=hx.cell r0
     exact reg.want_no rfl rfl rfl s59 (by decide) rfl
    ·-- 6: slot 62:=Op.fieldAddr 102 t61 1
     intro ra w' hx hs
     have s61:ra.eval (.tmp 61) = undef:=hs.1
     have s59:ra.eval (.tmp 59) = .bool false:=hs.2.1
     clear hs
     have r0:=hx.cell r0
     exact reg.want_no rfl rfl rfl s59 (by decide) rfl
    ·-- 7: slot 63:=Op.load 3 t62
     intro ra w' hx hs
     have s62:ra.eval (.tmp 62) = undef:=hs.1
     have s59:ra.eval (.tmp 59) = .bool false:=hs.2.1
     clear hs
     have r0:=hx.cell r0
     exact reg.want_no rfl rfl rfl s59 (by decide) rfl
    ·-- 8: slot 64:=Op.binOp BinOp.add 3 t63 (const (1:i64)) 3
     intro ra w' hx hs
     have s63:ra.eval (.tmp 63) = undef:=hs.1
     have s59:ra.eval (.tmp 59) = .bool false:=hs.2.1
     clear hs
     have r0:=hx.cell r0
     exact reg.want_no rfl rfl rfl s59 (by decide) rfl
    ·-- 9: slot 65:=Op.move t0
     intro ra w' hx hs
     have s0:ra.eval (.tmp 0) = PP p:=hs.1
     have s59:ra.eval (.tmp 59) = .bool false:=hs.2.1
     clear hs
     have r0:=hx.cell r0
     exact reg.want_no rfl rfl rfl s59 (by decide) rfl
    ·-- 10: slot 66:=Op.nilCheck t65
     intro ra w' hx hs
     have s65:ra.eval (.tmp 65) = undef:=hs.1
     have s59:ra.eval (.tmp 59) = .bool false:=hs.2.1
     clear hs
     have r0:=hx.cell r0
     exact reg.want_no rfl rfl rfl s59 (by decide) rfl
    ·-- 11: slot 67:=Op.fieldAddr 102 t66 0
     intro ra w' hx hs
     have s66:ra.eval (.tmp 66) = undef:=hs.1
     have s59:ra.eval (.tmp 59) = .bool false:=hs.2.1
     clear hs
     have r0:=hx.cell r0
     exact reg.want_no rfl rfl rfl s59 (by decide) rfl
    ·-- 12: slot 68:=Op.load 100 t67
     intro ra w' hx hs
     have s67:ra.eval (.tmp 67) = undef:=hs.1
     have s59:ra.eval (.tmp 59) = .bool false:=hs.2.1
     clear hs
     have r0:=hx.cell r0
     exact reg.want_no rfl rfl rfl s59 (by decide) rfl
    ·-- 13: slot 69:=Op.call { builtin len,args := #[t68],argTypes := #[100] }
     intro ra w' hx hs
     have s68:ra.eval (.tmp 68) = undef:=hs.1
     have s59:ra.eval (.tmp 59) = .bool false:=hs.2.1
     clear hs
     have r0:=hx.cell r0
     exact reg.want_no rfl rfl rfl s59 (by decide) rfl
    ·-- 14: slot 70:=Op.binOp BinOp.lss 3 t64 t69 3
     intro ra w' hx hs
     have s64:ra.eval (.tmp 64) = undef:=hs.1
     have s69:ra.eval (.tmp 69) = undef:=hs.2.1
     have s59:ra.eval (.tmp 59) = .bool false:=hs.2.2.1
     clear hs
     have r0:=hx.cell r0
     exact reg.want_no rfl rfl rfl s59 (by decide) rfl
    ·-- 15: slot 71:=Op.pick t59 t70 (const (Value.bool false))
     intro ra w' hx hs
     have s59:ra.eval (.tmp 59) = .bool false:=hs.1
     have s70:ra.eval (.tmp 70) = undef:=hs.2.1
     clear hs
     have r0:=hx.cell r0
     change Oper.wp _ _ ra w' _ _
     refine reg.wp_value (v:=.bool false) (w':=w') ?_ ⟨_,rfl,reg.Ext.refl _,rfl⟩
     intro ρ rc rf rg re
     rw [re] at s59 s70
     simp [execOp,go_sem,rc,rf,rg,s59,s70] <;> first | omega | rfl | decide
    ·-- 16: slot 72:=Op.move t71
     intro ra w' hx hs
     have s71:ra.eval (.tmp 71) = .bool false:=hs.1
     clear hs
     have r0:=hx.cell r0
     change Oper.wp _ _ ra w' _ _
     refine reg.wp_value (v:=.bool false) (w':=w') ?_ ⟨_,rfl,reg.Ext.refl _,rfl⟩
     intro ρ rc rf rg re
     rw [re] at s71
     simp [execOp,go_sem,rc,rf,rg,s71] <;> first | omega | rfl | decide
    ·-- 17: slot 73:=Op.move t0
     intro ra w' hx hs
     have s0:ra.eval (.tmp 0) = PP p:=hs.1
     have s72:ra.eval (.tmp 72) = .bool false:=hs.2.1
     clear hs
     have r0:=hx.cell r0
     exact reg.want_no rfl rfl rfl s72 (by decide) rfl
    ·-- 18: slot 74:=Op.nilCheck t73
     intro ra w' hx hs
     have s73:ra.eval (.tmp 73) = undef:=hs.1
     have s72:ra.eval (.tmp 72) = .bool false:=hs.2.1
     clear hs
     have r0:=hx.cell r0
     exact reg.want_no rfl rfl rfl s72 (by decide) rfl
    ·-- 19: slot 75:=Op.fieldAddr 102 t74 0
     intro ra w' hx hs
     have s74:ra.eval (.tmp 74) = undef:=hs.1
     have s72:ra.eval (.tmp 72) = .bool false:=hs.2.1
     clear hs
     have r0:=hx.cell r0
     exact reg.want_no rfl rfl rfl s72 (by decide) rfl
    ·-- 20: slot 76:=Op.load 100 t75
     intro ra w' hx hs
     have s75:ra.eval (.tmp 75) = undef:=hs.1
     have s72:ra.eval (.tmp 72) = .bool false:=hs.2.1
     clear hs
     have r0:=hx.cell r0
     exact reg.want_no rfl rfl rfl s72 (by decide) rfl
    ·-- 21: slot 77:=Op.move t0
     intro ra w' hx hs
     have s0:ra.eval (.tmp 0) = PP p:=hs.1
     have s72:ra.eval (.tmp 72) = .bool false:=hs.2.1
     clear hs
     have r0:=hx.cell r0
     exact reg.want_no rfl rfl rfl s72 (by decide) rfl
    ·-- 22: slot 78:=Op.nilCheck t77
     intro ra w' hx hs
     have s77:ra.eval (.tmp 77) = undef:=hs.1
     have s72:ra.eval (.tmp 72) = .bool false:=hs.2.1
     clear hs
     have r0:=hx.cell r0
     exact reg.want_no rfl rfl rfl s72 (by decide) rfl
    ·-- 23: slot 79:=Op.fieldAddr 102 t78 1
     intro ra w' hx hs
     have s78:ra.eval (.tmp 78) = undef:=hs.1
     have s72:ra.eval (.tmp 72) = .bool false:=hs.2.1
     clear hs
     have r0:=hx.cell r0
     exact reg.want_no rfl rfl rfl s72 (by decide) rfl
    ·-- 24: slot 80:=Op.load 3 t79
     intro ra w' hx hs
     have s79:ra.eval (.tmp 79) = undef:=hs.1
     have s72:ra.eval (.tmp 72) = .bool false:=hs.2.1
     clear hs
     have r0:=hx.cell r0
     exact reg.want_no rfl rfl rfl s72 (by decide) rfl
    ·-- 25: slot 81:=Op.binOp BinOp.add 3 t80 (const (1:i64)) 3
     intro ra w' hx hs
     have s80:ra.eval (.tmp 80) = undef:=hs.1
     have s72:ra.eval (.tmp 72) = .bool false:=hs.2.1
     clear hs
     have r0:=hx.cell r0
     exact reg.want_no rfl rfl rfl s72 (by decide) rfl
    ·-- 26: slot 82:=Op.indexAddr 100 t76 t81
     intro ra w' hx hs
     have s76:ra.eval (.tmp 76) = undef:=hs.1
     have s81:ra.eval (.tmp 81) = undef:=hs.2.1
     have s72:ra.eval (.tmp 72) = .bool false:=hs.2.2.1
     clear hs
     have r0:=hx.cell r0
     exact reg.want_no rfl rfl rfl s72 (by decide) rfl
    ·-- 27: slot 83:=Op.fieldAddr 98 t82 0
     intro ra w' hx hs
     have s82:ra.eval (.tmp 82) = undef:=hs.1
     have s72:ra.eval (.tmp 72) = .bool false:=hs.2.1
     clear hs
     have r0:=hx.cell r0
     exact reg.want_no rfl rfl rfl s72 (by decide) rfl
    ·-- 28: slot 84:=Op.load 3 t83
     intro ra w' hx hs
     have s83:ra.eval (.tmp 83) = undef:=hs.1
     have s72:ra.eval (.tmp 72) = .bool false:=hs.2.1
     clear hs
     have r0:=hx.cell r0
     exact reg.want_no rfl rfl rfl s72 (by decide) rfl
    ·-- 29: slot 85:=Op.binOp BinOp.eql 3 t84 (const (4:i64)) 3
     intro ra w' hx hs
     have s84:ra.eval (.tmp 84) = undef:=hs.1
     have s72:ra.eval (.tmp 72) = .bool false:=hs.2.1
     clear hs
     have r0:=hx.cell r0
     exact reg.want_no rfl rfl rfl s72 (by decide) rfl
    ·-- 30: slot 86:=Op.pick t72 t85 (const (Value.bool false))
     intro ra w' hx hs
     have s72:ra.eval (.tmp 72) = .bool false:=hs.1
     have s85:ra.eval (.tmp 85) = undef:=hs.2.1
     clear hs
     have r0:=hx.cell r0
     change Oper.wp _ _ ra w' _ _
     refine reg.wp_value (v:=.bool false) (w':=w') ?_ ⟨_,rfl,reg.Ext.refl _,rfl⟩
     intro ρ rc rf rg re
     rw [re] at s72 s85
     simp [execOp,go_sem,rc,rf,rg,s72,s85] <;> first | omega | rfl | decide
    ·-- 31: slot 87:=Op.move t86
     intro ra w' hx hs
     have s86:ra.eval (.tmp 86) = .bool false:=hs.1
     clear hs
     have r0:=hx.cell r0
     change Oper.wp _ _ ra w' _ _
     refine reg.wp_value (v:=.bool false) (w':=w') ?_ ⟨_,rfl,reg.Ext.refl _,rfl⟩
     intro ρ rc rf rg re
     rw [re] at s86
     simp [execOp,go_sem,rc,rf,rg,s86] <;> first | omega | rfl | decide
    ·-- 32: slot 88:=Op.move t0
     intro ra w' hx hs
     have s0:ra.eval (.tmp 0) = PP p:=hs.1
     have s87:ra.eval (.tmp 87) = .bool false:=hs.2.1
     clear hs
     have r0:=hx.cell r0
     exact reg.want_no rfl rfl rfl s87 (by decide) rfl
    ·-- 33: slot 89:=Op.nilCheck t88
     intro ra w' hx hs
     have s88:ra.eval (.tmp 88) = undef:=hs.1
     have s87:ra.eval (.tmp 87) = .bool false:=hs.2.1
     clear hs
     have r0:=hx.cell r0
     exact reg.want_no rfl rfl rfl s87 (by decide) rfl
    ·-- 34: slot 90:=Op.fieldAddr 102 t89 0
     intro ra w' hx hs
     have s89:ra.eval (.tmp 89) = undef:=hs.1
     have s87:ra.eval (.tmp 87) = .bool false:=hs.2.1
     clear hs
     have r0:=hx.cell r0
     exact reg.want_no rfl rfl rfl s87 (by decide) rfl
    ·-- 35: slot 91:=Op.load 100 t90
     intro ra w' hx hs
     have s90:ra.eval (.tmp 90) = undef:=hs.1
     have s87:ra.eval (.tmp 87) = .bool false:=hs.2.1
     clear hs
     have r0:=hx.cell r0
     exact reg.want_no rfl rfl rfl s87 (by decide) rfl
    ·-- 36: slot 92:=Op.move t0
     intro ra w' hx hs
     have s0:ra.eval (.tmp 0) = PP p:=hs.1
     have s87:ra.eval (.tmp 87) = .bool false:=hs.2.1
     clear hs
     have r0:=hx.cell r0
     exact reg.want_no rfl rfl rfl s87 (by decide) rfl
    ·-- 37: slot 93:=Op.nilCheck t92
     intro ra w' hx hs
     have s92:ra.eval (.tmp 92) = undef:=hs.1
     have s87:ra.eval (.tmp 87) = .bool false:=hs.2.1
     clear hs
     have r0:=hx.cell r0
     exact reg.want_no rfl rfl rfl s87 (by decide) rfl
    ·-- 38: slot 94:=Op.fieldAddr 102 t93 1
     intro ra w' hx hs
     have s93:ra.eval (.tmp 93) = undef:=hs.1
     have s87:ra.eval (.tmp 87) = .bool false:=hs.2.1
     clear hs
     have r0:=hx.cell r0
     exact reg.want_no rfl rfl rfl s87 (by decide) rfl
    ·-- 39: slot 95:=Op.load 3 t94
     intro ra w' hx hs
     have s94:ra.eval (.tmp 94) = undef:=hs.1
     have s87:ra.eval (.tmp 87) = .bool false:=hs.2.1
     clear hs
     have r0:=hx.cell r0
     exact reg.want_no rfl rfl rfl s87 (by decide) rfl
    ·-- 40: slot 96:=Op.binOp BinOp.add 3 t95 (const (1:i64)) 3
     intro ra w' hx hs
     have s95:ra.eval (.tmp 95) = undef:=hs.1
     have s87:ra.eval (.tmp 87) = .bool false:=hs.2.1
     clear hs
     have r0:=hx.cell r0
     exact reg.want_no rfl rfl rfl s87 (by decide) rfl
    ·-- 41: slot 97:=Op.indexAddr 100 t91 t96
     intro ra w' hx hs
     have s91:ra.eval (.tmp 91) = undef:=hs.1
     have s96:ra.eval (.tmp 96) = undef:=hs.2.1
     have s87:ra.eval (.tmp 87) = .bool false:=hs.2.2.1
     clear hs
     have r0:=hx.cell r0
     exact reg.want_no rfl rfl rfl s87 (by decide) rfl
    ·-- 42: slot 98:=Op.fieldAddr 98 t97 1
     intro ra w' hx hs
     have s97:ra.eval (.tmp 97) = undef:=hs.1
     have s87:ra.eval (.tmp 87) = .bool false:=hs.2.1
     clear hs
     have r0:=hx.cell r0
     exact reg.want_no rfl rfl rfl s87 (by decide) rfl
    ·-- 43: slot 99:=Op.load 9 t98
     intro ra w' hx hs
     have s98:ra.eval (.tmp 98) = undef:=hs.1
     have s87:ra.eval (.tmp 87) = .bool false:=hs.2.1
     clear hs
     have r0:=hx.cell r0
     exact reg.want_no rfl rfl rfl s87 (by decide) rfl
    ·-- 44: slot 100:=Op.binOp BinOp.eql 9 t99 (const (Value.string { data := #[40] })) 9
     intro ra w' hx hs
     have s99:ra.eval (.tmp 99) = undef:=hs.1
     have s87:ra.eval (.tmp 87) = .bool false:=hs.2.1
     clear hs
     have r0:=hx.cell r0
     exact reg.want_no rfl rfl rfl s87 (by decide) rfl
    ·-- 45: slot 101:=Op.pick t87 t100 (const (Value.bool false))
     intro ra w' hx hs
     have s87:ra.eval (.tmp 87) = .bool false:=hs.1
     have s100:ra.eval (.tmp 100) = undef:=hs.2.1
     clear hs
     have r0:=hx.cell r0
     change Oper.wp _ _ ra w' _ _
     refine reg.wp_value (v:=.bool false) (w':=w') ?_ ⟨_,rfl,reg.Ext.refl _,rfl⟩
     intro ρ rc rf rg re
     rw [re] at s87 s100
     simp [execOp,go_sem,rc,rf,rg,s87,s100] <;> first | omega | rfl | decide
    ·-- 46: slot 55:=Op.assign t101
     intro ra w' hx hs
     have s101:ra.eval (.tmp 101) = .bool false:=hs.1
     clear hs
     have r0:=hx.cell r0
     change Oper.wp _ _ ra w' _ _
     refine reg.wp_value (v:=.bool false) (w':=w') ?_ ⟨_,rfl,reg.Ext.refl _,rfl⟩
     intro ρ rc rf rg re
     rw [re] at s101
     simp [execOp,go_sem,rc,rf,rg,s101] <;> first | omega | rfl | decide
   intro rV w6 hx6 hf
   have ve0:rV 0 = .pointer (some ⟨bt,0,none⟩):=hf 0 (by decide)
   have ve1:rV 1 = .int .i64 kd:=hf 1 (by decide)
   have ve2:rV 2 = .bool false:=hf 2 (by decide)
   have ve3:rV 3 = .bool false:=hf 3 (by decide)
   have ve4:rV 4 = undef:=hf 4 (by decide)
   have ve5:rV 5 = undef:=hf 5 (by decide)
   have ve6:rV 6 = undef:=hf 6 (by decide)
   have ve7:rV 7 = undef:=hf 7 (by decide)
   have ve8:rV 8 = undef:=hf 8 (by decide)
   have ve9:rV 9 = undef:=hf 9 (by decide)
   have ve10:rV 10 = undef:=hf 10 (by decide)
   have ve11:rV 11 = undef:=hf 11 (by decide)
   have ve12:rV 12 = undef:=hf 12 (by decide)
   have ve13:rV 13 = undef:=hf 13 (by decide)
   have ve14:rV 14 = undef:=hf 14 (by decide)
   have ve15:rV 15 = .bool false:=hf 15 (by decide)
   have ve16:rV 16 = .bool false:=hf 16 (by decide)
   have ve17:rV 17 = undef:=hf 17 (by decide)
   have ve18:rV 18 = undef:=hf 18 (by decide)
   have ve19:rV 19 = undef:=hf 19 (by decide)
   have ve20:rV 20 = undef:=hf 20 (by decide)
   have ve21:rV 21 = undef:=hf 21 (by decide)
   have ve22:rV 22 = undef:=hf 22 (by decide)
   have ve23:rV 23 = undef:=hf 23 (by decide)
   have ve24:rV 24 = undef:=hf 24 (by decide)
   have ve25:rV 25 = undef:=hf 25 (by decide)
   have ve26:rV 26 = undef:=hf 26 (by decide)
   have ve27:rV 27 = undef:=hf 27 (by decide)
   have ve28:rV 28 = undef:=hf 28 (by decide)
   have ve29:rV 29 = undef:=hf 29 (by decide)
   have ve30:rV 30 = .bool false:=hf 30 (by decide)
   have ve31:rV 31 = .bool false:=hf 31 (by decide)
   have ve32:rV 32 = undef:=hf 32 (by decide)
   have ve33:rV 33 = undef:=hf 33 (by decide)
   have ve34:rV 34 = undef:=hf 34 (by decide)
   have ve35:rV 35 = undef:=hf 35 (by decide)
   have ve36:rV 36 = undef:=hf 36 (by decide)
   have ve37:rV 37 = undef:=hf 37 (by decide)
   have ve38:rV 38 = undef:=hf 38 (by decide)
   have ve39:rV 39 = undef:=hf 39 (by decide)
   have ve40:rV 40 = undef:=hf 40 (by decide)
   have ve41:rV 41 = undef:=hf 41 (by decide)
   have ve42:rV 42 = undef:=hf 42 (by decide)
   have ve43:rV 43 = undef:=hf 43 (by decide)
   have ve44:rV 44 = undef:=hf 44 (by decide)
   have ve45:rV 45 = .bool false:=hf 45 (by decide)
   have ve46:rV 46 = .bool false:=hf 46 (by decide)
   clear hf
   simp only [List.zipIdx_cons,List.zipIdx_nil,List.foldl_cons,List.foldl_nil,Act.put,Nat.reduceAdd,List.setIfInBounds_toArray,List.set_cons_succ,List.set_cons_zero,ve0,ve1,ve2,ve3,ve4,ve5,ve6,ve7,ve8,ve9,ve10,ve11,ve12,ve13,ve14,ve15,ve16,ve17,ve18,ve19,ve20,ve21,ve22,ve23,ve24,ve25,ve26,ve27,ve28,ve29,ve30,ve31,ve32,ve33,ve34,ve35,ve36,ve37,ve38,ve39,ve40,ve41,ve42,ve43,ve44,ve45,ve46]
   clear ve0 ve1 ve2 ve3 ve4 ve5 ve6 ve7 ve8 ve9 ve10 ve11 ve12 ve13 ve14 ve15 ve16 ve17 ve18 ve19 ve20 ve21 ve22 ve23 ve24 ve25 ve26 ve27 ve28 ve29 ve30 ve31 ve32 ve33 ve34 ve35 ve36 ve37 ve38 ve39 ve40 ve41 ve42 ve43 ve44 ve45 ve46
   clear rV
   go_wp2_with fail
   go_meet
   exact ⟨by rw [hkd];rfl,HSq.out.below (ext_below hx6)⟩
 case rest =>
  obtain ⟨rfl,HS4⟩:=hcut
  clear HSq HK HSF0
  by_cases k1:kd = 1
  ·subst k1
   cases c with
   | true =>
    have hr:=HR.out
    try simp only [and_self,↓reduceIte] at hr
    obtain ⟨hi,hmi⟩:=HTI.out (by decide)
    have hi2:=called_lt HC.out.symm
    have hf:=HF.out
    have hmt:ms E ⟨s2.i + 2,s2.code,s2.bad,s2.deep⟩ ≤ ms E (inc s2):=ms_i rfl (by show s2.i + 1 ≤ s2.i + 2;omega)
    obtain ⟨kf,sf,h1,h2,-⟩:=run_ends E f (.args []) ⟨s2.i + 2,s2.code,s2.bad,s2.deep⟩ (by simp [okJ]) (by simp only [rank];omega)
    simp only [h1] at hr
    cases hr
    have HMU2:=Lib.hid (fun W h=>must_any p v E sf [41] W h)
    have HB0:Hid (run E f (.args []) ⟨s2.i + 2,s2.code,s2.bad,s2.deep⟩ = some (kf,sf) ∧ 16 * ms E ⟨s2.i + 2,s2.code,s2.bad,s2.deep⟩ + 10 ≤ f ∧ ms E ⟨s2.i + 2,s2.code,s2.bad,s2.deep⟩ ≤ 100001):=⟨h1,by omega,by have:=HLE.out;omega⟩
    clear HR HTI HSC HLE HF HKT HWR HC H40 h1 h2 hf hmi hmt hi
    have hcs:=HS4.out.P.cells
    have q1:=hcs.c1
    have f1:=hcs.f1
    have hle:=HS4.out.P.le
    have hlen:=HS4.out.P.len
    have hpl:=HS4.out.P.lt
    clear hcs
    obtain ⟨t0,t1,t2,t3,tf0,tf1,tf2,tf3,tl⟩:=HS4.out.c4 0 rfl
    obtain ⟨tn,tm⟩:=HS4.out.ne 0 rfl
    go_wp2_with fail
    have HSa:=Lib.hid ((HS4.out.inc2 hi2).alloc (ksO 19 u none 0 0 a))
    change Code.wp _ _ _ _ ((wc.setCell ⟨p,1,none⟩ (.int .i64 ((s2.i:Int) + 2))).alloc (ksO 19 u none 0 0 a))
    have hsz:(wc.setCell ⟨p,1,none⟩ (.int .i64 ((s2.i:Int) + 2))).heap.size = wc.heap.size:=by simp
    rw [hsz] at HSa
    generalize ((wc.setCell ⟨p,1,none⟩ (.int .i64 ((s2.i:Int) + 2))).alloc (ksO 19 u none 0 0 a)) = wi at *
    clear hsz
    clear q1 f1 hle hlen hpl
    clear t0 t1 t2 t3 tf0 tf1 tf2 tf3 tl
    clear tn tm HS4
    generalize wc.heap.size = bx at *
    have HI0:Hid (ArgI W p v E bx u a [(bt,tnO ⟨1,u,nm,a⟩),(W.heap.size,ndO zero (.slice none 0 0))] kf sf f f wi):=
     ⟨[],_,none,0,[],HSa.out.addNil,HB0.out.1,HB0.out.2.1,Nat.le_refl _,by have:=HB0.out.2.2;simp;omega⟩
    clear HSa HB0 hi2
    go_loopg [] f (fun k wr=>ArgI W p v E bx u a [(bt,tnO ⟨1,u,nm,a⟩),(W.heap.size,ndO zero (.slice none 0 0))] kf sf f k wr)
    case atStart=>exact HI0.out
    case round =>
     obtain ⟨qs,s6,a4,n4,S4,hsw,hr,hm,hkf,hlen⟩:=hrel
     have HS6:=Lib.hid hsw
     clear hsw HI0
     obtain ⟨k',rfl⟩:∃ k',gk = k' + 1:=⟨gk - 1,by omega⟩
     rw [run] at hr
     have HR:=Lib.hid hr
     have hmt:=ms_sT E s6
     have HM:Hid (k' + 1 ≤ f ∧ 16 * ms E s6 + 9 ≤ k' ∧ qs.length + ms E s6 ≤ 200002 ∧ ms E (sT E s6) ≤ ms E s6):=⟨hkf,by omega,hlen,hmt⟩
     have HSG:=Lib.hid (fun W h=>sign_any p v E s6 [41] _ W h rfl)
     clear hr hm hkf hlen hmt
     generalize isS E [41] s6 = b41 at *
     generalize sT E s6 = s7 at *
     obtain ⟨wo,rfl⟩:∃ wo:World,wo = wr:=⟨_,rfl⟩
     go_wp2_with fail
     refine (HSG.out _ HS6.out.P).mono ?_
     rintro e w9 ⟨rfl,hP,hT⟩
     have HS9:=Lib.hid (HS6.out.call hP hT)
     clear hP hT HS6
     have hr:=HR.out
     clear HR
     have hcs:=HS9.out.P.cells
     have q4:=hcs.c4
     clear hcs
     cases b41 with
     | true =>
      simp only [Bool.true_or,↓reduceIte] at hr
      cases hr
      clear HM HJJ q4
      go_wp2_with fail
      refine (HMU2.out _ HS9.out.P).mono ?_
      rintro e w8 ⟨⟨uw8,rfl⟩,hP,hT⟩
      have HS8:=Lib.hid (HS9.out.call hP hT)
      clear hP hT HS9
      obtain ⟨r0,r1,r2,r3,r4,rf0,rf1,rf2,rf3,rf4,rl⟩:=HS8.out.c5 0 rfl
      obtain ⟨q0,q1,q2,q3,q4,qf0,qf1,qf2,qf3,qf4,ql⟩:=HS8.out.c5 2 rfl
      go_wp2_with fail
      have HSF:=Lib.hid ((HS8.out.set5 2 rfl (.int .i64 19) (.string ⟨u.toArray⟩) (.float .f64 0) (.slice a4 kf.length n4) (.int .i64 a)))
      generalize (((((w8.setCell _ _).setCell _ _).setCell _ _).setCell _ _).setCell _ _) = wf at HSF ⊢
      obtain ⟨z0,z1,z2,z3,z4,zf0,zf1,zf2,zf3,zf4,zl⟩:=HSF.out.c5 2 rfl
      refine bodyPost_ret (v:=.agg #[.int .i64 19,.string ⟨u.toArray⟩,.float .f64 0,.slice a4 kf.length n4,.int .i64 a]) (by simp [results,Tryz.results184,go_sem,z0,z1,z2,z3,z4]) rfl ?_
      exact HSF.out.node (List.mem_cons_self ..) (.mk 19 u 0 kf a) rfl
     | false =>
      by_cases hc:s7.code = 0
      ·simp only [hc,ne_eq,not_true_eq_false,decide_false,Bool.or_self,Bool.false_eq_true,↓reduceIte] at hr
       rw [hc] at q4
       have hm:=HM.out
       obtain ⟨y,s8,h1,h2,-⟩:=(run_ends E k' .inner s7 (by simp [okJ]) (by simp only [rank];omega)).one rfl
       simp only [h1] at hr
       have HJ2:=Lib.hid (fun W h=>(HJJ.out k' (by omega)).inner s7 y s8 W (by simp only [rank];omega) h1 h)
       have HSG2:=Lib.hid (fun W h=>sign_any p v E s8 [44] _ W h rfl)
       have HSG3:=Lib.hid (fun W h=>sign_any p v E (inc (sT E s8)) [41] _ W h rfl)
       have HWR2:=Lib.hid (fun W h=>wrong_any p v E (sT E (inc (sT E s8))) W h)
       have hin:isS E [44] s8 = true → (sT E s8).i < E.ts.length ∧ ms E (inc (sT E s8)) < ms E s8:=fun h=>by
        have h:=(isS_kind h).1
        exact ⟨by rw [sT_i];exact (tk_kind (by rw [h];decide)).2.1,ms_inc (by rw [h];decide)⟩
       have hm3:=ms_sT E (inc (sT E s8))
       have hm4:=ms_wrong E (sT E (inc (sT E s8)))
       have HR:=Lib.hid hr
       have HIN:=Lib.hid hin
       have HN:Hid (ms E (sT E (inc (sT E s8))) ≤ ms E (inc (sT E s8)) ∧ ms E (wrong E (sT E (inc (sT E s8)))) = 0 ∧ ms E s8 ≤ ms E s6 ∧ qs.length ≤ 1000000 ∧ 16 * ms E s6 + 9 ≤ k' ∧ k' ≤ f ∧ qs.length + ms E s6 ≤ 200002):=⟨hm3,hm4,by omega,by omega,by omega,by omega,by omega⟩
       clear hr h1 h2 hm hin hm3 hm4 HM HJJ hc
       generalize isS E [44] s8 = b44 at *
       generalize isS E [41] (inc (sT E s8)) = b41 at *
       generalize wrong E (sT E (inc (sT E s8))) = s12 at *
       generalize sT E (inc (sT E s8)) = s11 at *
       generalize sT E s8 = s10 at *
       go_upto_region 17 with fail
       clear q4
       go_cut [] from 115 to 145 (fun wx=>∃ a2 n2 S2,Hid (SW W wx p v E s8 [(bx,ksO 19 u a2 (qs ++ [y]).length n2 a),(bt,tnO ⟨1,u,nm,a⟩),(W.heap.size,ndO zero (.slice none 0 0))] [⟨qs ++ [y],.slice a2 (qs ++ [y]).length n2,S2⟩]))
       case first =>
        clear HSG2 HSG3 HWR2 HR HIN HMU2
        obtain ⟨r0,r1,r2,r3,r4,rf0,rf1,rf2,rf3,rf4,rl⟩:=HS9.out.c5 0 rfl
        go_region_law
         (first
          | (obtain ⟨a2,n2,w11,S2,hrun,hsw⟩:=((HS10.out.alloc (ndO y (.slice a10 y.kids.length n10))).drop _ ((List.Sublist.refl _).cons _)).appendS y rfl w10.heap.size (blk_new _ _) HN.out.2.2.2.1
             have HRUN:=Lib.hid hrun
             have HS11:=Lib.hid hsw
             clear hrun hsw
             obtain ⟨r0,r1,r2,r3,r4,rf0,rf1,rf2,rf3,rf4,rl⟩:=HS11.out.c5 0 rfl
             refine step_append_run (by rfl) (by rfl) (by rfl) (by rfl) (by rfl) HRUN.out ?_)
          | (go_simp
             go_at_call 201
             refine (HJ2.out _ (by first | exact HS9.out.P | exact HS9.out.drew.P)).mono ?_
             rintro e w10 ⟨a10,n10,S10,rfl,hk,hS,hP,hT⟩
             have HS10:=Lib.hid (HS9.out.drew.callT hk hS hP hT)
             clear hk hS hP hT
             obtain ⟨r0,r1,r2,r3,r4,rf0,rf1,rf2,rf3,rf4,rl⟩:=HS10.out.c5 0 rfl))
        all_goals
         have HB:Hid (SW W (w11.setCell ⟨bx,3,none⟩ (.slice a2 (qs.length + 1) n2)) p v E s8 [(bx,ksO 19 u a2 (qs ++ [y]).length n2 a),(bt,tnO ⟨1,u,nm,a⟩),(W.heap.size,ndO zero (.slice none 0 0))] [⟨qs ++ [y],.slice a2 (qs ++ [y]).length n2,S2⟩]):=by
          have:=HS11.out.setL 0 rfl 3 (.slice a2 (qs ++ [y]).length n2)
          rw [List.length_append] at this ⊢
          exact this
         clear HS11 HRUN HS9 HJ2
         go_wp2_with fail
         go_meet
         exact ⟨a2,n2,S2,HB⟩
       case rest =>
        obtain ⟨a2,n2,S2,HSx⟩:=hcut
        clear HS9 HJ2
        go_wp2_with fail
        refine (HSG2.out _ HSx.out.P).mono ?_
        rintro e wy ⟨rfl,hP,hT⟩
        have HSy:=Lib.hid (HSx.out.call hP hT)
        clear hP hT HSx
        have hr:=HR.out
        clear HR
        cases b44 with
        | false =>
         simp only [Bool.false_eq_true,↓reduceIte] at hr
         cases hr
         clear HIN HN HSG3 HWR2
         generalize qs ++ [y] = kf at *
         go_wp2_with fail
         refine (HMU2.out _ HSy.out.P).mono ?_
         rintro e w8 ⟨⟨uw8,rfl⟩,hP,hT⟩
         have HS8:=Lib.hid (HSy.out.call hP hT)
         clear hP hT HSy
         obtain ⟨r0,r1,r2,r3,r4,rf0,rf1,rf2,rf3,rf4,rl⟩:=HS8.out.c5 0 rfl
         obtain ⟨q0,q1,q2,q3,q4,qf0,qf1,qf2,qf3,qf4,ql⟩:=HS8.out.c5 2 rfl
         go_wp2_with fail
         have HSF:=Lib.hid ((HS8.out.set5 2 rfl (.int .i64 19) (.string ⟨u.toArray⟩) (.float .f64 0) (.slice a2 kf.length n2) (.int .i64 a)))
         generalize (((((w8.setCell _ _).setCell _ _).setCell _ _).setCell _ _).setCell _ _) = wf at HSF ⊢
         obtain ⟨z0,z1,z2,z3,z4,zf0,zf1,zf2,zf3,zf4,zl⟩:=HSF.out.c5 2 rfl
         refine bodyPost_ret (v:=.agg #[.int .i64 19,.string ⟨u.toArray⟩,.float .f64 0,.slice a2 kf.length n2,.int .i64 a]) (by simp [results,Tryz.results184,go_sem,z0,z1,z2,z3,z4]) rfl ?_
         exact HSF.out.node (List.mem_cons_self ..) (.mk 19 u 0 kf a) rfl
        | true =>
         obtain ⟨hi2,hmi2⟩:=HIN.out rfl
         simp only [↓reduceIte] at hr
         have HR:=Lib.hid hr
         have HMI:=Lib.hid hmi2
         clear hr hmi2 HIN HMU2
         have hcs:=HSy.out.P.cells
         have q1:=hcs.c1
         have f1:=hcs.f1
         have hle:=HSy.out.P.le
         have hlen:=HSy.out.P.len
         have hpl:=HSy.out.P.lt
         clear hcs
         go_wp2_with fail
         have HSz:=Lib.hid (HSy.out.inc hi2)
         refine (HSG3.out _ HSz.out.P).mono ?_
         rintro e w12 ⟨rfl,hP,hT⟩
         have HSw:=Lib.hid (HSz.out.call hP hT)
         clear hP hT HSz
         clear HSy
         clear q1 f1 hle hlen hpl
         cases b41 with
         | false =>
          have HB:Hid (ArgI W p v E bx u a [(bt,tnO ⟨1,u,nm,a⟩),(W.heap.size,ndO zero (.slice none 0 0))] kf sf f k' w12):=by
           have hn:=HN.out
           have hmi:=HMI.out
           exact ⟨qs ++ [y],s11,a2,n2,S2,HSw.out,by have:=HR.out;simpa using this,by omega,hn.2.2.2.2.2.1,by simp;omega⟩
          clear HN HR HWR2 HSw HMI
          go_wp2_with fail
          go_roundg k'
          case rel=>exact HB.out
          case measure=>omega
         | true =>
          go_wp2_with fail
          refine (HWR2.out _ HSw.out.P).mono ?_
          rintro e w13 ⟨⟨uw13,rfl⟩,hP,hT⟩
          have HSv:=Lib.hid (HSw.out.call hP hT)
          clear hP hT HSw
          have HB:Hid (ArgI W p v E bx u a [(bt,tnO ⟨1,u,nm,a⟩),(W.heap.size,ndO zero (.slice none 0 0))] kf sf f k' w13):=by
           have hn:=HN.out
           have hmi:=HMI.out
           exact ⟨qs ++ [y],s12,a2,n2,S2,HSv.out,by have:=HR.out;simpa using this,by omega,hn.2.2.2.2.2.1,by simp;omega⟩
          clear HN HR HSv HMI
          go_wp2_with fail
          go_roundg k'
          case rel=>exact HB.out
          case measure=>omega
      ·have hcb:(s7.code == 0) = false:=beq_eq_false_iff_ne.2 hc
       rw [if_pos (by simp [hc])] at hr
       cases hr
       clear HM HJJ hc
       go_wp2_with fail
       clear q4
       refine (HMU2.out _ HS9.out.P).mono ?_
       rintro e w8 ⟨⟨uw8,rfl⟩,hP,hT⟩
       have HS8:=Lib.hid (HS9.out.call hP hT)
       clear hP hT HS9
       obtain ⟨r0,r1,r2,r3,r4,rf0,rf1,rf2,rf3,rf4,rl⟩:=HS8.out.c5 0 rfl
       obtain ⟨q0,q1,q2,q3,q4,qf0,qf1,qf2,qf3,qf4,ql⟩:=HS8.out.c5 2 rfl
       go_wp2_with fail
       have HSF:=Lib.hid ((HS8.out.set5 2 rfl (.int .i64 19) (.string ⟨u.toArray⟩) (.float .f64 0) (.slice a4 kf.length n4) (.int .i64 a)))
       generalize (((((w8.setCell _ _).setCell _ _).setCell _ _).setCell _ _).setCell _ _) = wf at HSF ⊢
       obtain ⟨z0,z1,z2,z3,z4,zf0,zf1,zf2,zf3,zf4,zl⟩:=HSF.out.c5 2 rfl
       refine bodyPost_ret (v:=.agg #[.int .i64 19,.string ⟨u.toArray⟩,.float .f64 0,.slice a4 kf.length n4,.int .i64 a]) (by simp [results,Tryz.results184,go_sem,z0,z1,z2,z3,z4]) rfl ?_
       exact HSF.out.node (List.mem_cons_self ..) (.mk 19 u 0 kf a) rfl
   | false =>
    have hr:=HR.out
    simp only [Bool.false_eq_true,and_false,↓reduceIte,true_and] at hr
    have hi:=(HTI.out (by decide)).1
    clear HR HTI HSC HLE HF HC H40 HJJ
    obtain ⟨t0,t1,t2,t3,tf0,tf1,tf2,tf3,tl⟩:=HS4.out.c4 0 rfl
    go_wp2_with fail
    refine (HKT.out _).mono ?_
    rintro e w5 ⟨rfl,hb⟩
    have HS5:=Lib.hid (HS4.out.below hb)
    clear hb HS4 HKT
    clear t0 t1 t2 t3 tf0 tf1 tf2 tf3 tl
    cases kp with
    | false =>
     simp only [↓reduceIte] at hr
     cases hr
     clear HWR
     have hcs:=HS5.out.P.cells
     have q1:=hcs.c1
     have f1:=hcs.f1
     have hle:=HS5.out.P.le
     have hlen:=HS5.out.P.len
     have hpl:=HS5.out.P.lt
     clear hcs
     obtain ⟨t0,t1,t2,t3,tf0,tf1,tf2,tf3,tl⟩:=HS5.out.c4 0 rfl
     obtain ⟨q0,q1,q2,q3,q4,qf0,qf1,qf2,qf3,qf4,ql⟩:=HS5.out.c5 1 rfl
     obtain ⟨qn,qm⟩:=HS5.out.ne 1 rfl
     obtain ⟨tn,tm⟩:=HS5.out.ne 0 rfl
     go_wp2_with fail
     have HSF:=Lib.hid (((HS5.out.inc hi).set5 1 rfl (.int .i64 14) (.string ⟨u.toArray⟩) (.float .f64 0) (.slice none 0 0) (.int .i64 a)))
     generalize ((((((w5.setCell _ _).setCell _ _).setCell _ _).setCell _ _).setCell _ _).setCell _ _) = wf at HSF ⊢
     obtain ⟨z0,z1,z2,z3,z4,zf0,zf1,zf2,zf3,zf4,zl⟩:=HSF.out.c5 1 rfl
     refine bodyPost_ret (v:=.agg #[.int .i64 14,.string ⟨u.toArray⟩,.float .f64 0,.slice none 0 0,.int .i64 a]) (by simp [results,Tryz.results184,go_sem,z0,z1,z2,z3,z4]) rfl ?_
     exact HSF.out.leaf (.mk 14 u 0 [] a) rfl
    | true =>
     simp only [Bool.true_eq_false,↓reduceIte] at hr
     cases hr
     go_wp2_with fail
     refine (HWR.out _ HS5.out.P).mono ?_
     rintro e w6 ⟨⟨uw6,rfl⟩,hP,hT⟩
     have HS6:=Lib.hid (HS5.out.call hP hT)
     clear hP hT HS5
     obtain ⟨q0,q1,q2,q3,q4,qf0,qf1,qf2,qf3,qf4,ql⟩:=HS6.out.c5 1 rfl
     go_wp2_with fail
     have HSF:=Lib.hid ((HS6.out.set5 1 rfl (.int .i64 0) (.string ⟨#[]⟩) (.float .f64 0) (.slice none 0 0) (.int .i64 0)))
     generalize (((((w6.setCell _ _).setCell _ _).setCell _ _).setCell _ _).setCell _ _) = wf at HSF ⊢
     obtain ⟨z0,z1,z2,z3,z4,zf0,zf1,zf2,zf3,zf4,zl⟩:=HSF.out.c5 1 rfl
     refine bodyPost_ret (v:=.agg #[.int .i64 0,.string ⟨#[]⟩,.float .f64 0,.slice none 0 0,.int .i64 0]) (by simp [results,Tryz.results184,go_sem,z0,z1,z2,z3,z4]) rfl ?_
     exact HSF.out.leaf zero rfl
  ·have e1:(kd == 1) = false:=beq_eq_false_iff_ne.2 k1
   have hr:=HR.out
   simp only [k1,false_and,↓reduceIte] at hr
   cases hr
   clear HR HTI HSC HLE HF HC H40 HJJ HKT k1
   rw [e1,Bool.false_and]
   obtain ⟨t0,t1,t2,t3,tf0,tf1,tf2,tf3,tl⟩:=HS4.out.c4 0 rfl
   go_wp2_with fail
   clear t0 t1 t2 t3 tf0 tf1 tf2 tf3 tl
   refine (HWR.out _ HS4.out.P).mono ?_
   rintro e w6 ⟨⟨uw6,rfl⟩,hP,hT⟩
   have HS6:=Lib.hid (HS4.out.call hP hT)
   clear hP hT HS4
   obtain ⟨q0,q1,q2,q3,q4,qf0,qf1,qf2,qf3,qf4,ql⟩:=HS6.out.c5 1 rfl
   go_wp2_with fail
   have HSF:=Lib.hid ((HS6.out.set5 1 rfl (.int .i64 0) (.string ⟨#[]⟩) (.float .f64 0) (.slice none 0 0) (.int .i64 0)))
   generalize (((((w6.setCell _ _).setCell _ _).setCell _ _).setCell _ _).setCell _ _) = wf at HSF ⊢
   obtain ⟨z0,z1,z2,z3,z4,zf0,zf1,zf2,zf3,zf4,zl⟩:=HSF.out.c5 1 rfl
   refine bodyPost_ret (v:=.agg #[.int .i64 0,.string ⟨#[]⟩,.float .f64 0,.slice none 0 0,.int .i64 0]) (by simp [results,Tryz.results184,go_sem,z0,z1,z2,z3,z4]) rfl ?_
   exact HSF.out.leaf zero rfl
end Go.Proofs.YtmfpmandkhiknaaGreatDoor.par
