/-
  Proved: what name, into, begins of the document's parser return. Conditions: as each theorem says.
-/
import Derived.Test.YtmfpmandkhiknaaGreatDoorPw14
import Derived.Deep.CutRange
import Derived.Deep.CutBlock
import Derived.IntWalk
set_option linter.unusedVariables false
set_option linter.unusedSimpArgs false
namespace Go.Proofs.YtmfpmandkhiknaaGreatDoor.par
open Go.RowKit
open heap
open lex (Tk TRow TkAt run_store_float add0)
set_option maxRecDepth 100000
attribute [local go_sem] run_store_float
theorem SW.below {w W W':World} {p:Nat} {v:Value} {E:PE} {s:PS} {L:List (Nat × Obj)} {K:List Tr} (h:SW w W p v E s L K) (hb:Below W.heap.size W W'):SW w W' p v E s L K:=
 h.call (h.P.below hb) (Turned.of_below hb)
theorem ext_below {w w':World} (h:reg.Ext w.drew w'):Below w.heap.size w w':=⟨h.os,h.tape,h.output,h.size,h.block⟩
theorem bne_of (a b:Int) (h:a ≠ b):(a != b) = true:=by simp [h]
set_option maxHeartbeats 1000000 in
theorem name_any (p:Nat) (v:Value) (E:PE) (s:PS) (w:World) (h:PAt w p v E s) :
  Calls Tryz.prog 77 #[PP p] w fun e w'=>e = .returned (.tuple #[.string ⟨(pName E s).1.1.toArray⟩,.int .i64 (pName E s).1.2]) ∧ PAt w' p v E (pName E s).2 ∧ Turned [p] w w':=by
 have HS:=Lib.hid (SW.start h)
 have HTA:=Lib.hid (fun W h=>t_any p v E s W h)
 clear h
 have HM:Hid (pName E s = if (tk E s).kind ≠ 1 ∨ kept (tk E s).text = true then (([],0),wrong E (sT E s)) else (((tk E s).text,(tk E s).at'),inc (sT E s))):=rfl
 generalize pName E s = sm at *
 have HI:Hid ((tk E s).kind = 1 → (sT E s).i < E.ts.length):=fun h=>by rw [sT_i];exact (tk_kind (by rw [h];decide)).2.1
 generalize sT E s = s2 at *
 generalize tk E s = t at *
 obtain ⟨kd,u,nm,a⟩:=t
 simp only at HM HI
 by_cases hk:kd = 1
 ·have hi:=HI.out hk
  subst hk
  cases hkt:kept u with
  | false =>
   obtain rfl:=HM.out.trans (if_neg (by simp [hkt]))
   have HK:=Lib.hid (fun W=>kept_any u false W hkt)
   clear HM HI hkt
   go_enter Tryz.func77,Tryz.ntmps77
   go_wp2_with fail
   refine (HTA.out _ HS.out.P).mono ?_
   rintro e w2 ⟨rfl,hP,hT⟩
   have HS1:=Lib.hid ((HS.out.call hP hT).alloc (tnO ⟨1,u,nm,a⟩))
   clear hP hT HS
   go_wp2_with fail
   refine (HK.out _).mono ?_
   rintro e w3 ⟨rfl,hb⟩
   have HS2:=Lib.hid (HS1.out.below hb)
   clear hb HS1
   have hcs:=HS2.out.P.cells
   have hpl:=HS2.out.P.lt
   have hle:=HS2.out.P.le
   have hlen:=HS2.out.P.len
   have q1:=hcs.c1
   have f1:=hcs.f1
   clear hcs
   obtain ⟨r0,r1,r2,r3,rf0,rf1,rf2,rf3,rl⟩:=HS2.out.c4 0 rfl
   obtain ⟨rn,rm⟩:=HS2.out.ne 0 rfl
   go_wp2_with fail
   go_quiet (fail)
   go_wp2_with fail
   go_ret2
   have HS3:=(HS2.out.inc hi).drewN nq
   exact ⟨rfl,HS3.P,HS3.T⟩
  | true =>
   obtain rfl:=HM.out.trans (if_pos (.inr hkt))
   have HK:=Lib.hid (fun W=>kept_any u true W hkt)
   clear HM HI hkt
   go_enter Tryz.func77,Tryz.ntmps77
   go_wp2_with fail
   refine (HTA.out _ HS.out.P).mono ?_
   rintro e w2 ⟨rfl,hP,hT⟩
   have HS1:=Lib.hid ((HS.out.call hP hT).alloc (tnO ⟨1,u,nm,a⟩))
   clear hP hT HS
   go_wp2_with fail
   refine (HK.out _).mono ?_
   rintro e w3 ⟨rfl,hb⟩
   have HS2:=Lib.hid (HS1.out.below hb)
   clear hb HS1
   go_wp2_with fail
   refine (wrong_any p v E _ _ HS2.out.P).mono ?_
   rintro e w4 ⟨⟨u3,rfl⟩,hP,hT⟩
   have HS3:=Lib.hid (HS2.out.call hP hT)
   clear hP hT HS2
   go_wp2_with fail
   go_ret2
   exact ⟨rfl,HS3.out.P,HS3.out.T⟩
 ·have hkc:=bne_of _ _ hk
  obtain rfl:=HM.out.trans (if_pos (.inl hk))
  clear HM HI hk
  go_enter Tryz.func77,Tryz.ntmps77
  go_wp2_with fail
  refine (HTA.out _ HS.out.P).mono ?_
  rintro e w2 ⟨rfl,hP,hT⟩
  have HS2:=Lib.hid ((HS.out.call hP hT).alloc (tnO ⟨kd,u,nm,a⟩))
  clear hP hT HS
  go_wp2_with fail
  refine (wrong_any p v E _ _ HS2.out.P).mono ?_
  rintro e w3 ⟨⟨u3,rfl⟩,hP,hT⟩
  have HS3:=Lib.hid (HS2.out.call hP hT)
  clear hP hT HS2
  go_wp2_with fail
  go_ret2
  exact ⟨rfl,HS3.out.P,HS3.out.T⟩
set_option maxHeartbeats 1000000 in
theorem into_any (p:Nat) (v:Value) (E:PE) (s:PS) (a:Int) (w:World) (h:PAt w p v E s) :
  Calls Tryz.prog 111 #[PP p,.int .i64 a] w fun e w'=>e = .returned (.bool (into s a).1) ∧ PAt w' p v E (into s a).2 ∧ Turned [p] w w':=by
 have HS:=Lib.hid (SW.start h)
 clear h
 have hcs:=HS.out.P.cells
 have q6:=hcs.c6
 have f6:=hcs.f6
 clear hcs
 by_cases hd:40 < s.deep
 ·have hm:into s a = (false,flt s 1901 a):=if_pos hd
  rw [hm]
  have hdd:decide (40 < s.deep) = true:=decide_eq_true hd
  clear hm hd
  go_enter Tryz.func111,Tryz.ntmps111
  go_wp2_with fail
  refine (fault_any p v E s 1901 a _ HS.out.P).mono ?_
  rintro e w3 ⟨⟨u3,rfl⟩,hP,hT⟩
  clear q6 f6
  go_wp2_with fail
  go_ret
  exact ⟨rfl,hP,hT⟩
 ·have hm:into s a = (true,{ s with deep:=wrap64 (s.deep + 1) }):=if_neg hd
  rw [hm]
  have hdd:decide (40 < s.deep) = false:=decide_eq_false hd
  clear hm hd
  go_enter Tryz.func111,Tryz.ntmps111
  go_wp2_with fail
  go_ret
  exact ⟨rfl,HS.out.P.deep _,(Turned.refl _ _).setCell (by simp) _⟩
theorem sign_fix (p:Nat) (v:Value) (E:PE) (s s2:PS) (g:List UInt8) (b:Bool) (w:World) (h:PAt w p v E s2) (hs:s2 = sT E s) (hb:isS E g s = b) :
  Calls Tryz.prog 107 #[PP p,.string ⟨g.toArray⟩] w fun e w'=>e = .returned (.bool b) ∧ PAt w' p v E s2 ∧ Turned [p] w w':=by
 have:=sign_any p v E s2 g b w h (by rw [hs,isS_sT];exact hb)
 rw [show sT E s2 = s2 by rw [hs,sT_sT]] at this
 exact this
theorem called_no {E:PE} {s:PS} (h:¬ s.i + 1 < E.ts.length):called E s = false:=by
 unfold called;rw [List.getElem?_eq_none (by omega)]
theorem called_at {E:PE} {s:PS} {t:Tk} (h:E.ts[s.i + 1]? = some t):called E s = (t.kind == 4 && t.text == [40]):=by
 unfold called;rw [h]
set_option maxHeartbeats 2000000 in
theorem begins_any (p:Nat) (v:Value) (E:PE) (s:PS) (b:Bool) (w:World) (h:PAt w p v E s) (hb:begins E s = b) :
  Calls Tryz.prog 185 #[PP p] w fun e w'=>e = .returned (.bool b) ∧ PAt w' p v E (sT E s) ∧ Turned [p] w w':=by
 have HS:=Lib.hid (SW.start h)
 have HTA:=Lib.hid (fun W h=>t_any p v E s W h)
 have hsi:=sT_i E s
 generalize hs2:sT E s = s2 at *
 have H40:=Lib.hid (fun W h=>sign_fix p v E s s2 [40] _ W h hs2.symm rfl)
 have H45:=Lib.hid (fun W h=>sign_fix p v E s s2 [45] _ W h hs2.symm rfl)
 have H33:=Lib.hid (fun W h=>sign_fix p v E s s2 [33] _ W h hs2.symm rfl)
 have HKT:=Lib.hid (fun W=>kept_any (tk E s).text _ W rfl)
 have HC:Hid (called E s = called E s2):=by unfold Hid called;rw [hsi]
 have HB:Hid (((tk E s).kind == 2 || (tk E s).kind == 3 || isS E [40] s || isS E [45] s || isS E [33] s || ((tk E s).kind == 1 && (called E s || !kept (tk E s).text))) = b):=hb
 generalize tk E s = t at *
 generalize isS E [40] s = b40 at *
 generalize isS E [45] s = b45 at *
 generalize isS E [33] s = b33 at *
 generalize called E s = c at *
 obtain ⟨kd,u,nm,a⟩:=t
 simp only at HB HKT
 generalize kept u = kp at *
 clear hb h hs2 hsi
 go_enter Tryz.func185,Tryz.ntmps185
 go_wp2_with fail
 refine (HTA.out _ HS.out.P).mono ?_
 rintro e w2 ⟨rfl,hP,hT⟩
 have HS1:=Lib.hid (HS.out.call hP hT)
 clear hP hT HS
 have HS2:=Lib.hid (HS1.out.alloc (tnO ⟨kd,u,nm,a⟩))
 go_upto_region 2 with fail
 change Code.wp _ _ _ _ (w2.alloc (tnO ⟨kd,u,nm,a⟩))
 generalize w2.alloc (tnO ⟨kd,u,nm,a⟩) = w3 at *
 generalize w2.heap.size = bt at *
 go_upto_region 3 with fail
 go_cut [4] from 7 to 47 (fun s4 wx=>s4 = .bool c ∧ Hid (SW w wx p v E s2 [(bt,tnO ⟨kd,u,nm,a⟩)] []))
 case first =>
  have HROW:=Lib.hid HS2.out.P.row
  have hcs:=HS2.out.P.cells
  have hpl:=HS2.out.P.lt
  have hle:=HS2.out.P.le
  have hlen:=HS2.out.P.len
  have q0:=hcs.c0
  have q1:=hcs.c1
  clear hcs
  by_cases hlt:s2.i + 1 < E.ts.length
  ·have ht:E.ts[s2.i + 1]? = some E.ts[s2.i + 1]:=List.getElem?_eq_getElem hlt
   rcases HROW.out.cells with ⟨-,h0⟩ | ⟨g,cp,hv,hg,-,hc1,hc2,hcell⟩
   ·rw [h0] at hlt;simp at hlt
   ·obtain ⟨x0,x1,-,-⟩:=hcell _ _ ht
    have hc:=HC.out.trans (called_at ht)
    generalize E.ts[s2.i + 1] = t1 at *
    obtain ⟨k1,u1,n1,a1⟩:=t1
    simp only at x0 x1 hc
    rw [hv] at q0
    unfold maxLen at hc2
    have hlI:((s2.i:Int) + 1) < (E.ts.length:Int):=by omega
    have hiw:IntKind.i64.wrap ((s2.i:Int) + 1) = (s2.i:Int) + 1:=IntWalk.i64_in _ (by omega)
    have hi0:0 ≤ (s2.i:Int) + 1:=by omega
    have hin:((s2.i:Int) + 1).toNat = s2.i + 1:=by omega
    clear hcell ht hv HC
    by_cases hk:k1 = 4
    ·subst hk
     obtain rfl:c = (u1 == [40]):=by rw [hc];simp
     clear hc
     go_quiet (fail)
     go_wp2_with fail
     go_meet
     exact ⟨rfl,HS2.out.drewN nq⟩
    ·have hkb:(k1 == 4) = false:=beq_eq_false_iff_ne.2 hk
     obtain rfl:c = false:=by rw [hc,hkb];rfl
     clear hc hk
     refine reg.region_each (by kernel_rfl) reg.Ext (fun ri v w'=>match ri with
       | 0=>v = PP p
       | 1=>v = .pointer (some ⟨p,0,none⟩)
       | 2=>v = .pointer (some ⟨p,1,none⟩)
       | 3=>v = .int .i64 s2.i
       | 4=>v = .int .i64 ((s2.i:Int) + 1)
       | 5=>v = PP p
       | 6=>v = .pointer (some ⟨p,0,none⟩)
       | 7=>v = .pointer (some ⟨p,0,none⟩)
       | 8=>v = .slice (some ⟨g,0,none⟩) E.ts.length cp
       | 9=>v = .int .i64 E.ts.length
       | 10=>v = .bool true
       | 11=>v = .bool true
       | 12=>v = PP p
       | 13=>v = .pointer (some ⟨p,0,none⟩)
       | 14=>v = .pointer (some ⟨p,0,none⟩)
       | 15=>v = .slice (some ⟨g,0,none⟩) E.ts.length cp
       | 16=>v = PP p
       | 17=>v = .pointer (some ⟨p,0,none⟩)
       | 18=>v = .pointer (some ⟨p,1,none⟩)
       | 19=>v = .int .i64 s2.i
       | 20=>v = .int .i64 ((s2.i:Int) + 1)
       | 21=>v = .pointer (some ⟨g,(s2.i + 1) * 4,none⟩)
       | 22=>v = .pointer (some ⟨g,(s2.i + 1) * 4,none⟩)
       | 23=>v = .int .i64 k1
       | 24=>v = .bool false
       | 25=>v = .bool false
       | 26=>v = .bool false
       | 27=>v = undef
       | 28=>v = undef
       | 29=>v = undef
       | 30=>v = undef
       | 31=>v = undef
       | 32=>v = undef
       | 33=>v = undef
       | 34=>v = undef
       | 35=>v = undef
       | 36=>v = undef
       | 37=>v = undef
       | 38=>v = undef
       | 39=>v = undef
       | 40=>v = .bool false
       | 41=>v = .bool false
       | _=>True) reg.Ext.refl reg.Ext.trans ?_ (by kernel_rfl) ?_ ?_
     ·
      intro i v w1 w2 h hx
      rcases i with _|_|_|_|_|_|_|_|_|_|_|_|_|_|_|_|_|_|_|_|_|_|_|_|_|_|_|_|_|_|_|_|_|_|_|_|_|_|_|_|_|_|i
      ·exact h
      ·exact h
      ·exact h
      ·exact h
      ·exact h
      ·exact h
      ·exact h
      ·exact h
      ·exact h
      ·exact h
      ·exact h
      ·exact h
      ·exact h
      ·exact h
      ·exact h
      ·exact h
      ·exact h
      ·exact h
      ·exact h
      ·exact h
      ·exact h
      ·exact h
      ·exact h
      ·exact h
      ·exact h
      ·exact h
      ·exact h
      ·exact h
      ·exact h
      ·exact h
      ·exact h
      ·exact h
      ·exact h
      ·exact h
      ·exact h
      ·exact h
      ·exact h
      ·exact h
      ·exact h
      ·exact h
      ·exact h
      ·exact h
      ·trivial
     ·
      refine ⟨?_,?_,?_,?_,?_,?_,?_,?_,?_,?_,?_,?_,?_,?_,?_,?_,?_,?_,?_,?_,?_,?_,?_,?_,?_,?_,?_,?_,?_,?_,?_,?_,?_,?_,?_,?_,?_,?_,?_,?_,?_,?_,trivial⟩
      ·-- 0: slot 7:=Op.move t0
       intro ra w' hx hs
       have s0:ra.eval (.tmp 0) = PP p:=hs.1
       clear hs
       have q0:=hx.cell q0
       have q1:=hx.cell q1
       have x0:=hx.cell x0
       change Oper.wp _ _ ra w' _ _
       refine reg.wp_value (v:=PP p) (w':=w') ?_ ⟨_,rfl,reg.Ext.refl _,rfl⟩
       intro ρ rc rf rg re
       rw [re] at s0
       simp [execOp,go_sem,rc,rf,rg,s0] <;> first | omega | rfl | decide
      ·-- 1: slot 8:=Op.nilCheck t7
       intro ra w' hx hs
       have s7:ra.eval (.tmp 7) = PP p:=hs.1
       clear hs
       have q0:=hx.cell q0
       have q1:=hx.cell q1
       have x0:=hx.cell x0
       change Oper.wp _ _ ra w' _ _
       refine reg.wp_value (v:=.pointer (some ⟨p,0,none⟩)) (w':=w') ?_ ⟨_,rfl,reg.Ext.refl _,rfl⟩
       intro ρ rc rf rg re
       rw [re] at s7
       simp [execOp,go_sem,rc,rf,rg,s7] <;> first | omega | rfl | decide
      ·-- 2: slot 9:=Op.fieldAddr 102 t8 1
       intro ra w' hx hs
       have s8:ra.eval (.tmp 8) = .pointer (some ⟨p,0,none⟩):=hs.1
       clear hs
       have q0:=hx.cell q0
       have q1:=hx.cell q1
       have x0:=hx.cell x0
       change Oper.wp _ _ ra w' _ _
       refine reg.wp_value (v:=.pointer (some ⟨p,1,none⟩)) (w':=w') ?_ ⟨_,rfl,reg.Ext.refl _,rfl⟩
       intro ρ rc rf rg re
       rw [re] at s8
       simp [execOp,go_sem,rc,rf,rg,s8] <;> first | omega | rfl | decide
      ·-- 3: slot 10:=Op.load 3 t9
       intro ra w' hx hs
       have s9:ra.eval (.tmp 9) = .pointer (some ⟨p,1,none⟩):=hs.1
       clear hs
       have q0:=hx.cell q0
       have q1:=hx.cell q1
       have x0:=hx.cell x0
       change Oper.wp _ _ ra w' _ _
       refine reg.wp_value (v:=.int .i64 s2.i) (w':=w') ?_ ⟨_,rfl,reg.Ext.refl _,rfl⟩
       intro ρ rc rf rg re
       rw [re] at s9
       simp [execOp,go_sem,rc,rf,rg,s9,q1] <;> first | omega | rfl | decide
      ·-- 4: slot 11:=Op.binOp BinOp.add 3 t10 (const (1:i64)) 3
       intro ra w' hx hs
       have s10:ra.eval (.tmp 10) = .int .i64 s2.i:=hs.1
       clear hs
       have q0:=hx.cell q0
       have q1:=hx.cell q1
       have x0:=hx.cell x0
       change Oper.wp _ _ ra w' _ _
       refine reg.wp_value (v:=.int .i64 ((s2.i:Int) + 1)) (w':=w') ?_ ⟨_,rfl,reg.Ext.refl _,rfl⟩
       intro ρ rc rf rg re
       rw [re] at s10
       simp [execOp,go_sem,rc,rf,rg,s10,hiw] <;> first | omega | rfl | decide
      ·-- 5: slot 12:=Op.move t0
       intro ra w' hx hs
       have s0:ra.eval (.tmp 0) = PP p:=hs.1
       clear hs
       have q0:=hx.cell q0
       have q1:=hx.cell q1
       have x0:=hx.cell x0
       change Oper.wp _ _ ra w' _ _
       refine reg.wp_value (v:=PP p) (w':=w') ?_ ⟨_,rfl,reg.Ext.refl _,rfl⟩
       intro ρ rc rf rg re
       rw [re] at s0
       simp [execOp,go_sem,rc,rf,rg,s0] <;> first | omega | rfl | decide
      ·-- 6: slot 13:=Op.nilCheck t12
       intro ra w' hx hs
       have s12:ra.eval (.tmp 12) = PP p:=hs.1
       clear hs
       have q0:=hx.cell q0
       have q1:=hx.cell q1
       have x0:=hx.cell x0
       change Oper.wp _ _ ra w' _ _
       refine reg.wp_value (v:=.pointer (some ⟨p,0,none⟩)) (w':=w') ?_ ⟨_,rfl,reg.Ext.refl _,rfl⟩
       intro ρ rc rf rg re
       rw [re] at s12
       simp [execOp,go_sem,rc,rf,rg,s12] <;> first | omega | rfl | decide
      ·-- 7: slot 14:=Op.fieldAddr 102 t13 0
       intro ra w' hx hs
       have s13:ra.eval (.tmp 13) = .pointer (some ⟨p,0,none⟩):=hs.1
       clear hs
       have q0:=hx.cell q0
       have q1:=hx.cell q1
       have x0:=hx.cell x0
       change Oper.wp _ _ ra w' _ _
       refine reg.wp_value (v:=.pointer (some ⟨p,0,none⟩)) (w':=w') ?_ ⟨_,rfl,reg.Ext.refl _,rfl⟩
       intro ρ rc rf rg re
       rw [re] at s13
       simp [execOp,go_sem,rc,rf,rg,s13] <;> first | omega | rfl | decide
      ·-- 8: slot 15:=Op.load 100 t14
       intro ra w' hx hs
       have s14:ra.eval (.tmp 14) = .pointer (some ⟨p,0,none⟩):=hs.1
       clear hs
       have q0:=hx.cell q0
       have q1:=hx.cell q1
       have x0:=hx.cell x0
       change Oper.wp _ _ ra w' _ _
       refine reg.wp_value (v:=.slice (some ⟨g,0,none⟩) E.ts.length cp) (w':=w') ?_ ⟨_,rfl,reg.Ext.refl _,rfl⟩
       intro ρ rc rf rg re
       rw [re] at s14
       simp [execOp,go_sem,rc,rf,rg,s14,q0] <;> first | omega | rfl | decide
      ·-- 9: slot 16:=Op.call { builtin len,args := #[t15],argTypes := #[100] }
       intro ra w' hx hs
       have s15:ra.eval (.tmp 15) = .slice (some ⟨g,0,none⟩) E.ts.length cp:=hs.1
       clear hs
       have q0:=hx.cell q0
       have q1:=hx.cell q1
       have x0:=hx.cell x0
       change Oper.wp _ _ ra w' _ _
       refine reg.wp_value (v:=.int .i64 E.ts.length) (w':=w') ?_ ⟨_,rfl,reg.Ext.refl _,rfl⟩
       intro ρ rc rf rg re
       rw [re] at s15
       simp [execOp,go_sem,rc,rf,rg,s15] <;> first | omega | rfl | decide
      ·-- 10: slot 17:=Op.binOp BinOp.lss 3 t11 t16 3
       intro ra w' hx hs
       have s11:ra.eval (.tmp 11) = .int .i64 ((s2.i:Int) + 1):=hs.1
       have s16:ra.eval (.tmp 16) = .int .i64 E.ts.length:=hs.2.1
       clear hs
       have q0:=hx.cell q0
       have q1:=hx.cell q1
       have x0:=hx.cell x0
       change Oper.wp _ _ ra w' _ _
       refine reg.wp_value (v:=.bool true) (w':=w') ?_ ⟨_,rfl,reg.Ext.refl _,rfl⟩
       intro ρ rc rf rg re
       rw [re] at s11 s16
       simp [execOp,go_sem,rc,rf,rg,s11,s16,hlI] <;> first | omega | rfl | decide
      ·-- 11: slot 18:=Op.move t17
       intro ra w' hx hs
       have s17:ra.eval (.tmp 17) = .bool true:=hs.1
       clear hs
       have q0:=hx.cell q0
       have q1:=hx.cell q1
       have x0:=hx.cell x0
       change Oper.wp _ _ ra w' _ _
       refine reg.wp_value (v:=.bool true) (w':=w') ?_ ⟨_,rfl,reg.Ext.refl _,rfl⟩
       intro ρ rc rf rg re
       rw [re] at s17
       simp [execOp,go_sem,rc,rf,rg,s17] <;> first | omega | rfl | decide
      ·-- 12: slot 19:=Op.move t0
       intro ra w' hx hs
       have s0:ra.eval (.tmp 0) = PP p:=hs.1
       have s18:ra.eval (.tmp 18) = .bool true:=hs.2.1
       clear hs
       have q0:=hx.cell q0
       have q1:=hx.cell q1
       have x0:=hx.cell x0
       refine reg.want_yes rfl rfl rfl s18 rfl ?_
       change Oper.wp _ _ ra w' _ _
       refine reg.wp_value (v:=PP p) (w':=w') ?_ ⟨_,rfl,reg.Ext.refl _,rfl⟩
       intro ρ rc rf rg re
       rw [re] at s0 s18
       simp [execOp,go_sem,rc,rf,rg,s0,s18] <;> first | omega | rfl | decide
      ·-- 13: slot 20:=Op.nilCheck t19
       intro ra w' hx hs
       have s19:ra.eval (.tmp 19) = PP p:=hs.1
       have s18:ra.eval (.tmp 18) = .bool true:=hs.2.1
       clear hs
       have q0:=hx.cell q0
       have q1:=hx.cell q1
       have x0:=hx.cell x0
       refine reg.want_yes rfl rfl rfl s18 rfl ?_
       change Oper.wp _ _ ra w' _ _
       refine reg.wp_value (v:=.pointer (some ⟨p,0,none⟩)) (w':=w') ?_ ⟨_,rfl,reg.Ext.refl _,rfl⟩
       intro ρ rc rf rg re
       rw [re] at s19 s18
       simp [execOp,go_sem,rc,rf,rg,s19,s18] <;> first | omega | rfl | decide
      ·-- 14: slot 21:=Op.fieldAddr 102 t20 0
       intro ra w' hx hs
       have s20:ra.eval (.tmp 20) = .pointer (some ⟨p,0,none⟩):=hs.1
       have s18:ra.eval (.tmp 18) = .bool true:=hs.2.1
       clear hs
       have q0:=hx.cell q0
       have q1:=hx.cell q1
       have x0:=hx.cell x0
       refine reg.want_yes rfl rfl rfl s18 rfl ?_
       change Oper.wp _ _ ra w' _ _
       refine reg.wp_value (v:=.pointer (some ⟨p,0,none⟩)) (w':=w') ?_ ⟨_,rfl,reg.Ext.refl _,rfl⟩
       intro ρ rc rf rg re
       rw [re] at s20 s18
       simp [execOp,go_sem,rc,rf,rg,s20,s18] <;> first | omega | rfl | decide
      ·-- 15: slot 22:=Op.load 100 t21
       intro ra w' hx hs
       have s21:ra.eval (.tmp 21) = .pointer (some ⟨p,0,none⟩):=hs.1
       have s18:ra.eval (.tmp 18) = .bool true:=hs.2.1
       clear hs
       have q0:=hx.cell q0
       have q1:=hx.cell q1
       have x0:=hx.cell x0
       refine reg.want_yes rfl rfl rfl s18 rfl ?_
       change Oper.wp _ _ ra w' _ _
       refine reg.wp_value (v:=.slice (some ⟨g,0,none⟩) E.ts.length cp) (w':=w') ?_ ⟨_,rfl,reg.Ext.refl _,rfl⟩
       intro ρ rc rf rg re
       rw [re] at s21 s18
       simp [execOp,go_sem,rc,rf,rg,s21,s18,q0] <;> first | omega | rfl | decide
      ·-- 16: slot 23:=Op.move t0
       intro ra w' hx hs
       have s0:ra.eval (.tmp 0) = PP p:=hs.1
       have s18:ra.eval (.tmp 18) = .bool true:=hs.2.1
       clear hs
       have q0:=hx.cell q0
       have q1:=hx.cell q1
       have x0:=hx.cell x0
       refine reg.want_yes rfl rfl rfl s18 rfl ?_
       change Oper.wp _ _ ra w' _ _
       refine reg.wp_value (v:=PP p) (w':=w') ?_ ⟨_,rfl,reg.Ext.refl _,rfl⟩
       intro ρ rc rf rg re
       rw [re] at s0 s18
       simp [execOp,go_sem,rc,rf,rg,s0,s18] <;> first | omega | rfl | decide
      ·-- 17: slot 24:=Op.nilCheck t23
       intro ra w' hx hs
       have s23:ra.eval (.tmp 23) = PP p:=hs.1
       have s18:ra.eval (.tmp 18) = .bool true:=hs.2.1
       clear hs
       have q0:=hx.cell q0
       have q1:=hx.cell q1
       have x0:=hx.cell x0
       refine reg.want_yes rfl rfl rfl s18 rfl ?_
       change Oper.wp _ _ ra w' _ _
       refine reg.wp_value (v:=.pointer (some ⟨p,0,none⟩)) (w':=w') ?_ ⟨_,rfl,reg.Ext.refl _,rfl⟩
       intro ρ rc rf rg re
       rw [re] at s23 s18
       simp [execOp,go_sem,rc,rf,rg,s23,s18] <;> first | omega | rfl | decide
      ·-- 18: slot 25:=Op.fieldAddr 102 t24 1
       intro ra w' hx hs
       have s24:ra.eval (.tmp 24) = .pointer (some ⟨p,0,none⟩):=hs.1
       have s18:ra.eval (.tmp 18) = .bool true:=hs.2.1
       clear hs
       have q0:=hx.cell q0
       have q1:=hx.cell q1
       have x0:=hx.cell x0
       refine reg.want_yes rfl rfl rfl s18 rfl ?_
       change Oper.wp _ _ ra w' _ _
       refine reg.wp_value (v:=.pointer (some ⟨p,1,none⟩)) (w':=w') ?_ ⟨_,rfl,reg.Ext.refl _,rfl⟩
       intro ρ rc rf rg re
       rw [re] at s24 s18
       simp [execOp,go_sem,rc,rf,rg,s24,s18] <;> first | omega | rfl | decide
      ·-- 19: slot 26:=Op.load 3 t25
       intro ra w' hx hs
       have s25:ra.eval (.tmp 25) = .pointer (some ⟨p,1,none⟩):=hs.1
       have s18:ra.eval (.tmp 18) = .bool true:=hs.2.1
       clear hs
       have q0:=hx.cell q0
       have q1:=hx.cell q1
       have x0:=hx.cell x0
       refine reg.want_yes rfl rfl rfl s18 rfl ?_
       change Oper.wp _ _ ra w' _ _
       refine reg.wp_value (v:=.int .i64 s2.i) (w':=w') ?_ ⟨_,rfl,reg.Ext.refl _,rfl⟩
       intro ρ rc rf rg re
       rw [re] at s25 s18
       simp [execOp,go_sem,rc,rf,rg,s25,s18,q1] <;> first | omega | rfl | decide
      ·-- 20: slot 27:=Op.binOp BinOp.add 3 t26 (const (1:i64)) 3
       intro ra w' hx hs
       have s26:ra.eval (.tmp 26) = .int .i64 s2.i:=hs.1
       have s18:ra.eval (.tmp 18) = .bool true:=hs.2.1
       clear hs
       have q0:=hx.cell q0
       have q1:=hx.cell q1
       have x0:=hx.cell x0
       refine reg.want_yes rfl rfl rfl s18 rfl ?_
       change Oper.wp _ _ ra w' _ _
       refine reg.wp_value (v:=.int .i64 ((s2.i:Int) + 1)) (w':=w') ?_ ⟨_,rfl,reg.Ext.refl _,rfl⟩
       intro ρ rc rf rg re
       rw [re] at s26 s18
       simp [execOp,go_sem,rc,rf,rg,s26,s18,hiw] <;> first | omega | rfl | decide
      ·-- 21: slot 28:=Op.indexAddr 100 t22 t27
       intro ra w' hx hs
       have s22:ra.eval (.tmp 22) = .slice (some ⟨g,0,none⟩) E.ts.length cp:=hs.1
       have s27:ra.eval (.tmp 27) = .int .i64 ((s2.i:Int) + 1):=hs.2.1
       have s18:ra.eval (.tmp 18) = .bool true:=hs.2.2.1
       clear hs
       have q0:=hx.cell q0
       have q1:=hx.cell q1
       have x0:=hx.cell x0
       refine reg.want_yes rfl rfl rfl s18 rfl ?_
       change Oper.wp _ _ ra w' _ _
       refine reg.wp_value (v:=.pointer (some ⟨g,(s2.i + 1) * 4,none⟩)) (w':=w') ?_ ⟨_,rfl,reg.Ext.refl _,rfl⟩
       intro ρ rc rf rg re
       rw [re] at s22 s27 s18
       simp [execOp,go_sem,rc,rf,rg,s22,s27,s18,hlI,hi0,hin] <;> first | omega | rfl | decide
      ·-- 22: slot 29:=Op.fieldAddr 98 t28 0
       intro ra w' hx hs
       have s28:ra.eval (.tmp 28) = .pointer (some ⟨g,(s2.i + 1) * 4,none⟩):=hs.1
       have s18:ra.eval (.tmp 18) = .bool true:=hs.2.1
       clear hs
       have q0:=hx.cell q0
       have q1:=hx.cell q1
       have x0:=hx.cell x0
       refine reg.want_yes rfl rfl rfl s18 rfl ?_
       change Oper.wp _ _ ra w' _ _
       refine reg.wp_value (v:=.pointer (some ⟨g,(s2.i + 1) * 4,none⟩)) (w':=w') ?_ ⟨_,rfl,reg.Ext.refl _,rfl⟩
       intro ρ rc rf rg re
       rw [re] at s28 s18
       simp [execOp,go_sem,rc,rf,rg,s28,s18] <;> first | omega | rfl | decide
      ·-- 23: slot 30:=Op.load 3 t29
       intro ra w' hx hs
       have s29:ra.eval (.tmp 29) = .pointer (some ⟨g,(s2.i + 1) * 4,none⟩):=hs.1
       have s18:ra.eval (.tmp 18) = .bool true:=hs.2.1
       clear hs
       have q0:=hx.cell q0
       have q1:=hx.cell q1
       have x0:=hx.cell x0
       refine reg.want_yes rfl rfl rfl s18 rfl ?_
       change Oper.wp _ _ ra w' _ _
       refine reg.wp_value (v:=.int .i64 k1) (w':=w') ?_ ⟨_,rfl,reg.Ext.refl _,rfl⟩
       intro ρ rc rf rg re
       rw [re] at s29 s18
       simp [execOp,go_sem,rc,rf,rg,s29,s18,x0] <;> first | omega | rfl | decide
      ·-- 24: slot 31:=Op.binOp BinOp.eql 3 t30 (const (4:i64)) 3
       intro ra w' hx hs
       have s30:ra.eval (.tmp 30) = .int .i64 k1:=hs.1
       have s18:ra.eval (.tmp 18) = .bool true:=hs.2.1
       clear hs
       have q0:=hx.cell q0
       have q1:=hx.cell q1
       have x0:=hx.cell x0
       refine reg.want_yes rfl rfl rfl s18 rfl ?_
       change Oper.wp _ _ ra w' _ _
       refine reg.wp_value (v:=.bool false) (w':=w') ?_ ⟨_,rfl,reg.Ext.refl _,rfl⟩
       intro ρ rc rf rg re
       rw [re] at s30 s18
       simp [execOp,go_sem,rc,rf,rg,s30,s18,hkb] <;> first | omega | rfl | decide
      ·-- 25: slot 32:=Op.pick t18 t31 (const (Value.bool false))
       intro ra w' hx hs
       have s18:ra.eval (.tmp 18) = .bool true:=hs.1
       have s31:ra.eval (.tmp 31) = .bool false:=hs.2.1
       clear hs
       have q0:=hx.cell q0
       have q1:=hx.cell q1
       have x0:=hx.cell x0
       change Oper.wp _ _ ra w' _ _
       refine reg.wp_value (v:=.bool false) (w':=w') ?_ ⟨_,rfl,reg.Ext.refl _,rfl⟩
       intro ρ rc rf rg re
       rw [re] at s18 s31
       simp [execOp,go_sem,rc,rf,rg,s18,s31] <;> first | omega | rfl | decide
      ·-- 26: slot 33:=Op.move t32
       intro ra w' hx hs
       have s32:ra.eval (.tmp 32) = .bool false:=hs.1
       clear hs
       have q0:=hx.cell q0
       have q1:=hx.cell q1
       have x0:=hx.cell x0
       change Oper.wp _ _ ra w' _ _
       refine reg.wp_value (v:=.bool false) (w':=w') ?_ ⟨_,rfl,reg.Ext.refl _,rfl⟩
       intro ρ rc rf rg re
       rw [re] at s32
       simp [execOp,go_sem,rc,rf,rg,s32] <;> first | omega | rfl | decide
      ·-- 27: slot 34:=Op.move t0
       intro ra w' hx hs
       have s0:ra.eval (.tmp 0) = PP p:=hs.1
       have s33:ra.eval (.tmp 33) = .bool false:=hs.2.1
       clear hs
       have q0:=hx.cell q0
       have q1:=hx.cell q1
       have x0:=hx.cell x0
       exact reg.want_no rfl rfl rfl s33 (by decide) rfl
      ·-- 28: slot 35:=Op.nilCheck t34
       intro ra w' hx hs
       have s34:ra.eval (.tmp 34) = undef:=hs.1
       have s33:ra.eval (.tmp 33) = .bool false:=hs.2.1
       clear hs
       have q0:=hx.cell q0
       have q1:=hx.cell q1
       have x0:=hx.cell x0
       exact reg.want_no rfl rfl rfl s33 (by decide) rfl
      ·-- 29: slot 36:=Op.fieldAddr 102 t35 0
       intro ra w' hx hs
       have s35:ra.eval (.tmp 35) = undef:=hs.1
       have s33:ra.eval (.tmp 33) = .bool false:=hs.2.1
       clear hs
       have q0:=hx.cell q0
       have q1:=hx.cell q1
       have x0:=hx.cell x0
       exact reg.want_no rfl rfl rfl s33 (by decide) rfl
      ·-- 30: slot 37:=Op.load 100 t36
       intro ra w' hx hs
       have s36:ra.eval (.tmp 36) = undef:=hs.1
       have s33:ra.eval (.tmp 33) = .bool false:=hs.2.1
       clear hs
       have q0:=hx.cell q0
       have q1:=hx.cell q1
       have x0:=hx.cell x0
       exact reg.want_no rfl rfl rfl s33 (by decide) rfl
      ·-- 31: slot 38:=Op.move t0
       intro ra w' hx hs
       have s0:ra.eval (.tmp 0) = PP p:=hs.1
       have s33:ra.eval (.tmp 33) = .bool false:=hs.2.1
       clear hs
       have q0:=hx.cell q0
       have q1:=hx.cell q1
       have x0:=hx.cell x0
       exact reg.want_no rfl rfl rfl s33 (by decide) rfl
      ·-- 32: slot 39:=Op.nilCheck t38
       intro ra w' hx hs
       have s38:ra.eval (.tmp 38) = undef:=hs.1
       have s33:ra.eval (.tmp 33) = .bool false:=hs.2.1
       clear hs
       have q0:=hx.cell q0
       have q1:=hx.cell q1
       have x0:=hx.cell x0
       exact reg.want_no rfl rfl rfl s33 (by decide) rfl
      ·-- 33: slot 40:=Op.fieldAddr 102 t39 1
       intro ra w' hx hs
       have s39:ra.eval (.tmp 39) = undef:=hs.1
       have s33:ra.eval (.tmp 33) = .bool false:=hs.2.1
       clear hs
       have q0:=hx.cell q0
       have q1:=hx.cell q1
       have x0:=hx.cell x0
       exact reg.want_no rfl rfl rfl s33 (by decide) rfl
      ·-- 34: slot 41:=Op.load 3 t40
       intro ra w' hx hs
       have s40:ra.eval (.tmp 40) = undef:=hs.1
       have s33:ra.eval (.tmp 33) = .bool false:=hs.2.1
       clear hs
       have q0:=hx.cell q0
       have q1:=hx.cell q1
       have x0:=hx.cell x0
       exact reg.want_no rfl rfl rfl s33 (by decide) rfl
      ·-- 35: slot 42:=Op.binOp BinOp.add 3 t41 (const (1:i64)) 3
       intro ra w' hx hs
       have s41:ra.eval (.tmp 41) = undef:=hs.1
       have s33:ra.eval (.tmp 33) = .bool false:=hs.2.1
       clear hs
       have q0:=hx.cell q0
       have q1:=hx.cell q1
       have x0:=hx.cell x0
       exact reg.want_no rfl rfl rfl s33 (by decide) rfl
      ·-- 36: slot 43:=Op.indexAddr 100 t37 t42
       intro ra w' hx hs
       have s37:ra.eval (.tmp 37) = undef:=hs.1
       have s42:ra.eval (.tmp 42) = undef:=hs.2.1
       have s33:ra.eval (.tmp 33) = .bool false:=hs.2.2.1
       clear hs
       have q0:=hx.cell q0
       have q1:=hx.cell q1
       have x0:=hx.cell x0
       exact reg.want_no rfl rfl rfl s33 (by decide) rfl
      ·-- 37: slot 44:=Op.fieldAddr 98 t43 1
       intro ra w' hx hs
       have s43:ra.eval (.tmp 43) = undef:=hs.1
       have s33:ra.eval (.tmp 33) = .bool false:=hs.2.1
       clear hs
       have q0:=hx.cell q0
       have q1:=hx.cell q1
       have x0:=hx.cell x0
       exact reg.want_no rfl rfl rfl s33 (by decide) rfl
      ·-- 38: slot 45:=Op.load 9 t44
       intro ra w' hx hs
       have s44:ra.eval (.tmp 44) = undef:=hs.1
       have s33:ra.eval (.tmp 33) = .bool false:=hs.2.1
       clear hs
       have q0:=hx.cell q0
       have q1:=hx.cell q1
       have x0:=hx.cell x0
       exact reg.want_no rfl rfl rfl s33 (by decide) rfl
      ·-- 39: slot 46:=Op.binOp BinOp.eql 9 t45 (const (Value.string { data := #[40] })) 9
       intro ra w' hx hs
       have s45:ra.eval (.tmp 45) = undef:=hs.1
       have s33:ra.eval (.tmp 33) = .bool false:=hs.2.1
       clear hs
       have q0:=hx.cell q0
       have q1:=hx.cell q1
       have x0:=hx.cell x0
       exact reg.want_no rfl rfl rfl s33 (by decide) rfl
      ·-- 40: slot 47:=Op.pick t33 t46 (const (Value.bool false))
       intro ra w' hx hs
       have s33:ra.eval (.tmp 33) = .bool false:=hs.1
       have s46:ra.eval (.tmp 46) = undef:=hs.2.1
       clear hs
       have q0:=hx.cell q0
       have q1:=hx.cell q1
       have x0:=hx.cell x0
       change Oper.wp _ _ ra w' _ _
       refine reg.wp_value (v:=.bool false) (w':=w') ?_ ⟨_,rfl,reg.Ext.refl _,rfl⟩
       intro ρ rc rf rg re
       rw [re] at s33 s46
       simp [execOp,go_sem,rc,rf,rg,s33,s46] <;> first | omega | rfl | decide
      ·-- 41: slot 4:=Op.assign t47
       intro ra w' hx hs
       have s47:ra.eval (.tmp 47) = .bool false:=hs.1
       clear hs
       have q0:=hx.cell q0
       have q1:=hx.cell q1
       have x0:=hx.cell x0
       change Oper.wp _ _ ra w' _ _
       refine reg.wp_value (v:=.bool false) (w':=w') ?_ ⟨_,rfl,reg.Ext.refl _,rfl⟩
       intro ρ rc rf rg re
       rw [re] at s47
       simp [execOp,go_sem,rc,rf,rg,s47] <;> first | omega | rfl | decide
     intro rV w6 hx6 hf
     have ve0:rV 0 = PP p:=hf 0 (by decide)
     have ve1:rV 1 = .pointer (some ⟨p,0,none⟩):=hf 1 (by decide)
     have ve2:rV 2 = .pointer (some ⟨p,1,none⟩):=hf 2 (by decide)
     have ve3:rV 3 = .int .i64 s2.i:=hf 3 (by decide)
     have ve4:rV 4 = .int .i64 ((s2.i:Int) + 1):=hf 4 (by decide)
     have ve5:rV 5 = PP p:=hf 5 (by decide)
     have ve6:rV 6 = .pointer (some ⟨p,0,none⟩):=hf 6 (by decide)
     have ve7:rV 7 = .pointer (some ⟨p,0,none⟩):=hf 7 (by decide)
     have ve8:rV 8 = .slice (some ⟨g,0,none⟩) E.ts.length cp:=hf 8 (by decide)
     have ve9:rV 9 = .int .i64 E.ts.length:=hf 9 (by decide)
     have ve10:rV 10 = .bool true:=hf 10 (by decide)
     have ve11:rV 11 = .bool true:=hf 11 (by decide)
     have ve12:rV 12 = PP p:=hf 12 (by decide)
     have ve13:rV 13 = .pointer (some ⟨p,0,none⟩):=hf 13 (by decide)
     have ve14:rV 14 = .pointer (some ⟨p,0,none⟩):=hf 14 (by decide)
     have ve15:rV 15 = .slice (some ⟨g,0,none⟩) E.ts.length cp:=hf 15 (by decide)
     have ve16:rV 16 = PP p:=hf 16 (by decide)
     have ve17:rV 17 = .pointer (some ⟨p,0,none⟩):=hf 17 (by decide)
     have ve18:rV 18 = .pointer (some ⟨p,1,none⟩):=hf 18 (by decide)
     have ve19:rV 19 = .int .i64 s2.i:=hf 19 (by decide)
     have ve20:rV 20 = .int .i64 ((s2.i:Int) + 1):=hf 20 (by decide)
     have ve21:rV 21 = .pointer (some ⟨g,(s2.i + 1) * 4,none⟩):=hf 21 (by decide)
     have ve22:rV 22 = .pointer (some ⟨g,(s2.i + 1) * 4,none⟩):=hf 22 (by decide)
     have ve23:rV 23 = .int .i64 k1:=hf 23 (by decide)
     have ve24:rV 24 = .bool false:=hf 24 (by decide)
     have ve25:rV 25 = .bool false:=hf 25 (by decide)
     have ve26:rV 26 = .bool false:=hf 26 (by decide)
     have ve27:rV 27 = undef:=hf 27 (by decide)
     have ve28:rV 28 = undef:=hf 28 (by decide)
     have ve29:rV 29 = undef:=hf 29 (by decide)
     have ve30:rV 30 = undef:=hf 30 (by decide)
     have ve31:rV 31 = undef:=hf 31 (by decide)
     have ve32:rV 32 = undef:=hf 32 (by decide)
     have ve33:rV 33 = undef:=hf 33 (by decide)
     have ve34:rV 34 = undef:=hf 34 (by decide)
     have ve35:rV 35 = undef:=hf 35 (by decide)
     have ve36:rV 36 = undef:=hf 36 (by decide)
     have ve37:rV 37 = undef:=hf 37 (by decide)
     have ve38:rV 38 = undef:=hf 38 (by decide)
     have ve39:rV 39 = undef:=hf 39 (by decide)
     have ve40:rV 40 = .bool false:=hf 40 (by decide)
     have ve41:rV 41 = .bool false:=hf 41 (by decide)
     clear hf
     simp only [List.zipIdx_cons,List.zipIdx_nil,List.foldl_cons,List.foldl_nil,Act.put,Nat.reduceAdd,List.setIfInBounds_toArray,List.set_cons_succ,List.set_cons_zero,ve0,ve1,ve2,ve3,ve4,ve5,ve6,ve7,ve8,ve9,ve10,ve11,ve12,ve13,ve14,ve15,ve16,ve17,ve18,ve19,ve20,ve21,ve22,ve23,ve24,ve25,ve26,ve27,ve28,ve29,ve30,ve31,ve32,ve33,ve34,ve35,ve36,ve37,ve38,ve39,ve40,ve41]
     clear ve0 ve1 ve2 ve3 ve4 ve5 ve6 ve7 ve8 ve9 ve10 ve11 ve12 ve13 ve14 ve15 ve16 ve17 ve18 ve19 ve20 ve21 ve22 ve23 ve24 ve25 ve26 ve27 ve28 ve29 ve30 ve31 ve32 ve33 ve34 ve35 ve36 ve37 ve38 ve39 ve40 ve41
     clear rV
     go_wp2_with fail
     go_meet
     exact ⟨rfl,HS2.out.below (ext_below hx6)⟩
  ·obtain rfl:c = false:=HC.out.trans (called_no hlt)
   have hlI2:¬ ((s2.i:Int) + 1) < (E.ts.length:Int):=by omega
   have hlI:decide (((s2.i:Int) + 1) < (E.ts.length:Int)) = false:=decide_eq_false hlI2
   obtain ⟨a1,c1,hv⟩:=HROW.out.slice
   rw [hv] at q0
   have hiw:IntKind.i64.wrap ((s2.i:Int) + 1) = (s2.i:Int) + 1:=IntWalk.i64_in _ (by omega)
   have hi0:0 ≤ (s2.i:Int) + 1:=by omega
   have hin:((s2.i:Int) + 1).toNat = s2.i + 1:=by omega
   clear HC hv
   refine reg.region_each (by kernel_rfl) reg.Ext (fun ri v w'=>match ri with
     | 0=>v = PP p
     | 1=>v = .pointer (some ⟨p,0,none⟩)
     | 2=>v = .pointer (some ⟨p,1,none⟩)
     | 3=>v = .int .i64 s2.i
     | 4=>v = .int .i64 ((s2.i:Int) + 1)
     | 5=>v = PP p
     | 6=>v = .pointer (some ⟨p,0,none⟩)
     | 7=>v = .pointer (some ⟨p,0,none⟩)
     | 8=>v = .slice a1 E.ts.length c1
     | 9=>v = .int .i64 E.ts.length
     | 10=>v = .bool false
     | 11=>v = .bool false
     | 12=>v = undef
     | 13=>v = undef
     | 14=>v = undef
     | 15=>v = undef
     | 16=>v = undef
     | 17=>v = undef
     | 18=>v = undef
     | 19=>v = undef
     | 20=>v = undef
     | 21=>v = undef
     | 22=>v = undef
     | 23=>v = undef
     | 24=>v = undef
     | 25=>v = .bool false
     | 26=>v = .bool false
     | 27=>v = undef
     | 28=>v = undef
     | 29=>v = undef
     | 30=>v = undef
     | 31=>v = undef
     | 32=>v = undef
     | 33=>v = undef
     | 34=>v = undef
     | 35=>v = undef
     | 36=>v = undef
     | 37=>v = undef
     | 38=>v = undef
     | 39=>v = undef
     | 40=>v = .bool false
     | 41=>v = .bool false
     | _=>True) reg.Ext.refl reg.Ext.trans ?_ (by kernel_rfl) ?_ ?_
   ·
    intro i v w1 w2 h hx
    rcases i with _|_|_|_|_|_|_|_|_|_|_|_|_|_|_|_|_|_|_|_|_|_|_|_|_|_|_|_|_|_|_|_|_|_|_|_|_|_|_|_|_|_|i
    ·exact h
    ·exact h
    ·exact h
    ·exact h
    ·exact h
    ·exact h
    ·exact h
    ·exact h
    ·exact h
    ·exact h
    ·exact h
    ·exact h
    ·exact h
    ·exact h
    ·exact h
    ·exact h
    ·exact h
    ·exact h
    ·exact h
    ·exact h
    ·exact h
    ·exact h
    ·exact h
    ·exact h
    ·exact h
    ·exact h
    ·exact h
    ·exact h
    ·exact h
    ·exact h
    ·exact h
    ·exact h
    ·exact h
    ·exact h
    ·exact h
    ·exact h
    ·exact h
    ·exact h
    ·exact h
    ·exact h
    ·exact h
    ·exact h
    ·trivial
   ·
    refine ⟨?_,?_,?_,?_,?_,?_,?_,?_,?_,?_,?_,?_,?_,?_,?_,?_,?_,?_,?_,?_,?_,?_,?_,?_,?_,?_,?_,?_,?_,?_,?_,?_,?_,?_,?_,?_,?_,?_,?_,?_,?_,?_,trivial⟩
    ·-- 0: slot 7:=Op.move t0
     intro ra w' hx hs
     have s0:ra.eval (.tmp 0) = PP p:=hs.1
     clear hs
     have q0:=hx.cell q0
     have q1:=hx.cell q1
     change Oper.wp _ _ ra w' _ _
     refine reg.wp_value (v:=PP p) (w':=w') ?_ ⟨_,rfl,reg.Ext.refl _,rfl⟩
     intro ρ rc rf rg re
     rw [re] at s0
     simp [execOp,go_sem,rc,rf,rg,s0] <;> first | omega | rfl | decide
    ·-- 1: slot 8:=Op.nilCheck t7
     intro ra w' hx hs
     have s7:ra.eval (.tmp 7) = PP p:=hs.1
     clear hs
     have q0:=hx.cell q0
     have q1:=hx.cell q1
     change Oper.wp _ _ ra w' _ _
     refine reg.wp_value (v:=.pointer (some ⟨p,0,none⟩)) (w':=w') ?_ ⟨_,rfl,reg.Ext.refl _,rfl⟩
     intro ρ rc rf rg re
     rw [re] at s7
     simp [execOp,go_sem,rc,rf,rg,s7] <;> first | omega | rfl | decide
    ·-- 2: slot 9:=Op.fieldAddr 102 t8 1
     intro ra w' hx hs
     have s8:ra.eval (.tmp 8) = .pointer (some ⟨p,0,none⟩):=hs.1
     clear hs
     have q0:=hx.cell q0
     have q1:=hx.cell q1
     change Oper.wp _ _ ra w' _ _
     refine reg.wp_value (v:=.pointer (some ⟨p,1,none⟩)) (w':=w') ?_ ⟨_,rfl,reg.Ext.refl _,rfl⟩
     intro ρ rc rf rg re
     rw [re] at s8
     simp [execOp,go_sem,rc,rf,rg,s8] <;> first | omega | rfl | decide
    ·-- 3: slot 10:=Op.load 3 t9
     intro ra w' hx hs
     have s9:ra.eval (.tmp 9) = .pointer (some ⟨p,1,none⟩):=hs.1
     clear hs
     have q0:=hx.cell q0
     have q1:=hx.cell q1
     change Oper.wp _ _ ra w' _ _
     refine reg.wp_value (v:=.int .i64 s2.i) (w':=w') ?_ ⟨_,rfl,reg.Ext.refl _,rfl⟩
     intro ρ rc rf rg re
     rw [re] at s9
     simp [execOp,go_sem,rc,rf,rg,s9,q1] <;> first | omega | rfl | decide
    ·-- 4: slot 11:=Op.binOp BinOp.add 3 t10 (const (1:i64)) 3
     intro ra w' hx hs
     have s10:ra.eval (.tmp 10) = .int .i64 s2.i:=hs.1
     clear hs
     have q0:=hx.cell q0
     have q1:=hx.cell q1
     change Oper.wp _ _ ra w' _ _
     refine reg.wp_value (v:=.int .i64 ((s2.i:Int) + 1)) (w':=w') ?_ ⟨_,rfl,reg.Ext.refl _,rfl⟩
     intro ρ rc rf rg re
     rw [re] at s10
     simp [execOp,go_sem,rc,rf,rg,s10,hiw] <;> first | omega | rfl | decide
    ·-- 5: slot 12:=Op.move t0
     intro ra w' hx hs
     have s0:ra.eval (.tmp 0) = PP p:=hs.1
     clear hs
     have q0:=hx.cell q0
     have q1:=hx.cell q1
     change Oper.wp _ _ ra w' _ _
     refine reg.wp_value (v:=PP p) (w':=w') ?_ ⟨_,rfl,reg.Ext.refl _,rfl⟩
     intro ρ rc rf rg re
     rw [re] at s0
     simp [execOp,go_sem,rc,rf,rg,s0] <;> first | omega | rfl | decide
    ·-- 6: slot 13:=Op.nilCheck t12
     intro ra w' hx hs
     have s12:ra.eval (.tmp 12) = PP p:=hs.1
     clear hs
     have q0:=hx.cell q0
     have q1:=hx.cell q1
     change Oper.wp _ _ ra w' _ _
     refine reg.wp_value (v:=.pointer (some ⟨p,0,none⟩)) (w':=w') ?_ ⟨_,rfl,reg.Ext.refl _,rfl⟩
     intro ρ rc rf rg re
     rw [re] at s12
     simp [execOp,go_sem,rc,rf,rg,s12] <;> first | omega | rfl | decide
    ·-- 7: slot 14:=Op.fieldAddr 102 t13 0
     intro ra w' hx hs
     have s13:ra.eval (.tmp 13) = .pointer (some ⟨p,0,none⟩):=hs.1
     clear hs
     have q0:=hx.cell q0
     have q1:=hx.cell q1
     change Oper.wp _ _ ra w' _ _
     refine reg.wp_value (v:=.pointer (some ⟨p,0,none⟩)) (w':=w') ?_ ⟨_,rfl,reg.Ext.refl _,rfl⟩
     intro ρ rc rf rg re
     rw [re] at s13
     simp [execOp,go_sem,rc,rf,rg,s13] <;> first | omega | rfl | decide
    ·-- 8: slot 15:=Op.load 100 t14
     intro ra w' hx hs
     have s14:ra.eval (.tmp 14) = .pointer (some ⟨p,0,none⟩):=hs.1
     clear hs
     have q0:=hx.cell q0
     have q1:=hx.cell q1
     change Oper.wp _ _ ra w' _ _
     refine reg.wp_value (v:=.slice a1 E.ts.length c1) (w':=w') ?_ ⟨_,rfl,reg.Ext.refl _,rfl⟩
     intro ρ rc rf rg re
     rw [re] at s14
     simp [execOp,go_sem,rc,rf,rg,s14,q0] <;> first | omega | rfl | decide
    ·-- 9: slot 16:=Op.call { builtin len,args := #[t15],argTypes := #[100] }
     intro ra w' hx hs
     have s15:ra.eval (.tmp 15) = .slice a1 E.ts.length c1:=hs.1
     clear hs
     have q0:=hx.cell q0
     have q1:=hx.cell q1
     change Oper.wp _ _ ra w' _ _
     refine reg.wp_value (v:=.int .i64 E.ts.length) (w':=w') ?_ ⟨_,rfl,reg.Ext.refl _,rfl⟩
     intro ρ rc rf rg re
     rw [re] at s15
     simp [execOp,go_sem,rc,rf,rg,s15] <;> first | omega | rfl | decide
    ·-- 10: slot 17:=Op.binOp BinOp.lss 3 t11 t16 3
     intro ra w' hx hs
     have s11:ra.eval (.tmp 11) = .int .i64 ((s2.i:Int) + 1):=hs.1
     have s16:ra.eval (.tmp 16) = .int .i64 E.ts.length:=hs.2.1
     clear hs
     have q0:=hx.cell q0
     have q1:=hx.cell q1
     change Oper.wp _ _ ra w' _ _
     refine reg.wp_value (v:=.bool false) (w':=w') ?_ ⟨_,rfl,reg.Ext.refl _,rfl⟩
     intro ρ rc rf rg re
     rw [re] at s11 s16
     simp [execOp,go_sem,rc,rf,rg,s11,s16,hlI] <;> first | omega | rfl | decide
    ·-- 11: slot 18:=Op.move t17
     intro ra w' hx hs
     have s17:ra.eval (.tmp 17) = .bool false:=hs.1
     clear hs
     have q0:=hx.cell q0
     have q1:=hx.cell q1
     change Oper.wp _ _ ra w' _ _
     refine reg.wp_value (v:=.bool false) (w':=w') ?_ ⟨_,rfl,reg.Ext.refl _,rfl⟩
     intro ρ rc rf rg re
     rw [re] at s17
     simp [execOp,go_sem,rc,rf,rg,s17] <;> first | omega | rfl | decide
    ·-- 12: slot 19:=Op.move t0
     intro ra w' hx hs
     have s0:ra.eval (.tmp 0) = PP p:=hs.1
     have s18:ra.eval (.tmp 18) = .bool false:=hs.2.1
     clear hs
     have q0:=hx.cell q0
     have q1:=hx.cell q1
     exact reg.want_no rfl rfl rfl s18 (by decide) rfl
    ·-- 13: slot 20:=Op.nilCheck t19
     intro ra w' hx hs
     have s19:ra.eval (.tmp 19) = undef:=hs.1
     have s18:ra.eval (.tmp 18) = .bool false:=hs.2.1
     clear hs
     have q0:=hx.cell q0
     have q1:=hx.cell q1
     exact reg.want_no rfl rfl rfl s18 (by decide) rfl
    ·-- 14: slot 21:=Op.fieldAddr 102 t20 0
     intro ra w' hx hs
     have s20:ra.eval (.tmp 20) = undef:=hs.1
     have s18:ra.eval (.tmp 18) = .bool false:=hs.2.1
     clear hs
     have q0:=hx.cell q0
     have q1:=hx.cell q1
     exact reg.want_no rfl rfl rfl s18 (by decide) rfl
    ·-- 15: slot 22:=Op.load 100 t21
     intro ra w' hx hs
     have s21:ra.eval (.tmp 21) = undef:=hs.1
     have s18:ra.eval (.tmp 18) = .bool false:=hs.2.1
     clear hs
     have q0:=hx.cell q0
     have q1:=hx.cell q1
     exact reg.want_no rfl rfl rfl s18 (by decide) rfl
    ·-- 16: slot 23:=Op.move t0
     intro ra w' hx hs
     have s0:ra.eval (.tmp 0) = PP p:=hs.1
     have s18:ra.eval (.tmp 18) = .bool false:=hs.2.1
     clear hs
     have q0:=hx.cell q0
     have q1:=hx.cell q1
     exact reg.want_no rfl rfl rfl s18 (by decide) rfl
    ·-- 17: slot 24:=Op.nilCheck t23
     intro ra w' hx hs
     have s23:ra.eval (.tmp 23) = undef:=hs.1
     have s18:ra.eval (.tmp 18) = .bool false:=hs.2.1
     clear hs
     have q0:=hx.cell q0
     have q1:=hx.cell q1
     exact reg.want_no rfl rfl rfl s18 (by decide) rfl
    ·-- 18: slot 25:=Op.fieldAddr 102 t24 1
     intro ra w' hx hs
     have s24:ra.eval (.tmp 24) = undef:=hs.1
     have s18:ra.eval (.tmp 18) = .bool false:=hs.2.1
     clear hs
     have q0:=hx.cell q0
     have q1:=hx.cell q1
     exact reg.want_no rfl rfl rfl s18 (by decide) rfl
    ·-- 19: slot 26:=Op.load 3 t25
     intro ra w' hx hs
     have s25:ra.eval (.tmp 25) = undef:=hs.1
     have s18:ra.eval (.tmp 18) = .bool false:=hs.2.1
     clear hs
     have q0:=hx.cell q0
     have q1:=hx.cell q1
     exact reg.want_no rfl rfl rfl s18 (by decide) rfl
    ·-- 20: slot 27:=Op.binOp BinOp.add 3 t26 (const (1:i64)) 3
     intro ra w' hx hs
     have s26:ra.eval (.tmp 26) = undef:=hs.1
     have s18:ra.eval (.tmp 18) = .bool false:=hs.2.1
     clear hs
     have q0:=hx.cell q0
     have q1:=hx.cell q1
     exact reg.want_no rfl rfl rfl s18 (by decide) rfl
    ·-- 21: slot 28:=Op.indexAddr 100 t22 t27
     intro ra w' hx hs
     have s22:ra.eval (.tmp 22) = undef:=hs.1
     have s27:ra.eval (.tmp 27) = undef:=hs.2.1
     have s18:ra.eval (.tmp 18) = .bool false:=hs.2.2.1
     clear hs
     have q0:=hx.cell q0
     have q1:=hx.cell q1
     exact reg.want_no rfl rfl rfl s18 (by decide) rfl
    ·-- 22: slot 29:=Op.fieldAddr 98 t28 0
     intro ra w' hx hs
     have s28:ra.eval (.tmp 28) = undef:=hs.1
     have s18:ra.eval (.tmp 18) = .bool false:=hs.2.1
     clear hs
     have q0:=hx.cell q0
     have q1:=hx.cell q1
     exact reg.want_no rfl rfl rfl s18 (by decide) rfl
    ·-- 23: slot 30:=Op.load 3 t29
     intro ra w' hx hs
     have s29:ra.eval (.tmp 29) = undef:=hs.1
     have s18:ra.eval (.tmp 18) = .bool false:=hs.2.1
     clear hs
     have q0:=hx.cell q0
     have q1:=hx.cell q1
     exact reg.want_no rfl rfl rfl s18 (by decide) rfl
    ·-- 24: slot 31:=Op.binOp BinOp.eql 3 t30 (const (4:i64)) 3
     intro ra w' hx hs
     have s30:ra.eval (.tmp 30) = undef:=hs.1
     have s18:ra.eval (.tmp 18) = .bool false:=hs.2.1
     clear hs
     have q0:=hx.cell q0
     have q1:=hx.cell q1
     exact reg.want_no rfl rfl rfl s18 (by decide) rfl
    ·-- 25: slot 32:=Op.pick t18 t31 (const (Value.bool false))
     intro ra w' hx hs
     have s18:ra.eval (.tmp 18) = .bool false:=hs.1
     have s31:ra.eval (.tmp 31) = undef:=hs.2.1
     clear hs
     have q0:=hx.cell q0
     have q1:=hx.cell q1
     change Oper.wp _ _ ra w' _ _
     refine reg.wp_value (v:=.bool false) (w':=w') ?_ ⟨_,rfl,reg.Ext.refl _,rfl⟩
     intro ρ rc rf rg re
     rw [re] at s18 s31
     simp [execOp,go_sem,rc,rf,rg,s18,s31] <;> first | omega | rfl | decide
    ·-- 26: slot 33:=Op.move t32
     intro ra w' hx hs
     have s32:ra.eval (.tmp 32) = .bool false:=hs.1
     clear hs
     have q0:=hx.cell q0
     have q1:=hx.cell q1
     change Oper.wp _ _ ra w' _ _
     refine reg.wp_value (v:=.bool false) (w':=w') ?_ ⟨_,rfl,reg.Ext.refl _,rfl⟩
     intro ρ rc rf rg re
     rw [re] at s32
     simp [execOp,go_sem,rc,rf,rg,s32] <;> first | omega | rfl | decide
    ·-- 27: slot 34:=Op.move t0
     intro ra w' hx hs
     have s0:ra.eval (.tmp 0) = PP p:=hs.1
     have s33:ra.eval (.tmp 33) = .bool false:=hs.2.1
     clear hs
     have q0:=hx.cell q0
     have q1:=hx.cell q1
     exact reg.want_no rfl rfl rfl s33 (by decide) rfl
    ·-- 28: slot 35:=Op.nilCheck t34
     intro ra w' hx hs
     have s34:ra.eval (.tmp 34) = undef:=hs.1
     have s33:ra.eval (.tmp 33) = .bool false:=hs.2.1
     clear hs
     have q0:=hx.cell q0
     have q1:=hx.cell q1
     exact reg.want_no rfl rfl rfl s33 (by decide) rfl
    ·-- 29: slot 36:=Op.fieldAddr 102 t35 0
     intro ra w' hx hs
     have s35:ra.eval (.tmp 35) = undef:=hs.1
     have s33:ra.eval (.tmp 33) = .bool false:=hs.2.1
     clear hs
     have q0:=hx.cell q0
     have q1:=hx.cell q1
     exact reg.want_no rfl rfl rfl s33 (by decide) rfl
    ·-- 30: slot 37:=Op.load 100 t36
     intro ra w' hx hs
     have s36:ra.eval (.tmp 36) = undef:=hs.1
     have s33:ra.eval (.tmp 33) = .bool false:=hs.2.1
     clear hs
     have q0:=hx.cell q0
     have q1:=hx.cell q1
     exact reg.want_no rfl rfl rfl s33 (by decide) rfl
    ·-- 31: slot 38:=Op.move t0
     intro ra w' hx hs
     have s0:ra.eval (.tmp 0) = PP p:=hs.1
     have s33:ra.eval (.tmp 33) = .bool false:=hs.2.1
     clear hs
     have q0:=hx.cell q0
     have q1:=hx.cell q1
     exact reg.want_no rfl rfl rfl s33 (by decide) rfl
    ·-- 32: slot 39:=Op.nilCheck t38
     intro ra w' hx hs
     have s38:ra.eval (.tmp 38) = undef:=hs.1
     have s33:ra.eval (.tmp 33) = .bool false:=hs.2.1
     clear hs
     have q0:=hx.cell q0
     have q1:=hx.cell q1
     exact reg.want_no rfl rfl rfl s33 (by decide) rfl
    ·-- 33: slot 40:=Op.fieldAddr 102 t39 1
     intro ra w' hx hs
     have s39:ra.eval (.tmp 39) = undef:=hs.1
     have s33:ra.eval (.tmp 33) = .bool false:=hs.2.1
     clear hs
     have q0:=hx.cell q0
     have q1:=hx.cell q1
     exact reg.want_no rfl rfl rfl s33 (by decide) rfl
    ·-- 34: slot 41:=Op.load 3 t40
     intro ra w' hx hs
     have s40:ra.eval (.tmp 40) = undef:=hs.1
     have s33:ra.eval (.tmp 33) = .bool false:=hs.2.1
     clear hs
     have q0:=hx.cell q0
     have q1:=hx.cell q1
     exact reg.want_no rfl rfl rfl s33 (by decide) rfl
    ·-- 35: slot 42:=Op.binOp BinOp.add 3 t41 (const (1:i64)) 3
     intro ra w' hx hs
     have s41:ra.eval (.tmp 41) = undef:=hs.1
     have s33:ra.eval (.tmp 33) = .bool false:=hs.2.1
     clear hs
     have q0:=hx.cell q0
     have q1:=hx.cell q1
     exact reg.want_no rfl rfl rfl s33 (by decide) rfl
    ·-- 36: slot 43:=Op.indexAddr 100 t37 t42
     intro ra w' hx hs
     have s37:ra.eval (.tmp 37) = undef:=hs.1
     have s42:ra.eval (.tmp 42) = undef:=hs.2.1
     have s33:ra.eval (.tmp 33) = .bool false:=hs.2.2.1
     clear hs
     have q0:=hx.cell q0
     have q1:=hx.cell q1
     exact reg.want_no rfl rfl rfl s33 (by decide) rfl
    ·-- 37: slot 44:=Op.fieldAddr 98 t43 1
     intro ra w' hx hs
     have s43:ra.eval (.tmp 43) = undef:=hs.1
     have s33:ra.eval (.tmp 33) = .bool false:=hs.2.1
     clear hs
     have q0:=hx.cell q0
     have q1:=hx.cell q1
     exact reg.want_no rfl rfl rfl s33 (by decide) rfl
    ·-- 38: slot 45:=Op.load 9 t44
     intro ra w' hx hs
     have s44:ra.eval (.tmp 44) = undef:=hs.1
     have s33:ra.eval (.tmp 33) = .bool false:=hs.2.1
     clear hs
     have q0:=hx.cell q0
     have q1:=hx.cell q1
     exact reg.want_no rfl rfl rfl s33 (by decide) rfl
    ·-- 39: slot 46:=Op.binOp BinOp.eql 9 t45 (const (Value.string { data := #[40] })) 9
     intro ra w' hx hs
     have s45:ra.eval (.tmp 45) = undef:=hs.1
     have s33:ra.eval (.tmp 33) = .bool false:=hs.2.1
     clear hs
     have q0:=hx.cell q0
     have q1:=hx.cell q1
     exact reg.want_no rfl rfl rfl s33 (by decide) rfl
    ·-- 40: slot 47:=Op.pick t33 t46 (const (Value.bool false))
     intro ra w' hx hs
     have s33:ra.eval (.tmp 33) = .bool false:=hs.1
     have s46:ra.eval (.tmp 46) = undef:=hs.2.1
     clear hs
     have q0:=hx.cell q0
     have q1:=hx.cell q1
     change Oper.wp _ _ ra w' _ _
     refine reg.wp_value (v:=.bool false) (w':=w') ?_ ⟨_,rfl,reg.Ext.refl _,rfl⟩
     intro ρ rc rf rg re
     rw [re] at s33 s46
     simp [execOp,go_sem,rc,rf,rg,s33,s46] <;> first | omega | rfl | decide
    ·-- 41: slot 4:=Op.assign t47
     intro ra w' hx hs
     have s47:ra.eval (.tmp 47) = .bool false:=hs.1
     clear hs
     have q0:=hx.cell q0
     have q1:=hx.cell q1
     change Oper.wp _ _ ra w' _ _
     refine reg.wp_value (v:=.bool false) (w':=w') ?_ ⟨_,rfl,reg.Ext.refl _,rfl⟩
     intro ρ rc rf rg re
     rw [re] at s47
     simp [execOp,go_sem,rc,rf,rg,s47] <;> first | omega | rfl | decide
   intro rV w6 hx6 hf
   have ve0:rV 0 = PP p:=hf 0 (by decide)
   have ve1:rV 1 = .pointer (some ⟨p,0,none⟩):=hf 1 (by decide)
   have ve2:rV 2 = .pointer (some ⟨p,1,none⟩):=hf 2 (by decide)
   have ve3:rV 3 = .int .i64 s2.i:=hf 3 (by decide)
   have ve4:rV 4 = .int .i64 ((s2.i:Int) + 1):=hf 4 (by decide)
   have ve5:rV 5 = PP p:=hf 5 (by decide)
   have ve6:rV 6 = .pointer (some ⟨p,0,none⟩):=hf 6 (by decide)
   have ve7:rV 7 = .pointer (some ⟨p,0,none⟩):=hf 7 (by decide)
   have ve8:rV 8 = .slice a1 E.ts.length c1:=hf 8 (by decide)
   have ve9:rV 9 = .int .i64 E.ts.length:=hf 9 (by decide)
   have ve10:rV 10 = .bool false:=hf 10 (by decide)
   have ve11:rV 11 = .bool false:=hf 11 (by decide)
   have ve12:rV 12 = undef:=hf 12 (by decide)
   have ve13:rV 13 = undef:=hf 13 (by decide)
   have ve14:rV 14 = undef:=hf 14 (by decide)
   have ve15:rV 15 = undef:=hf 15 (by decide)
   have ve16:rV 16 = undef:=hf 16 (by decide)
   have ve17:rV 17 = undef:=hf 17 (by decide)
   have ve18:rV 18 = undef:=hf 18 (by decide)
   have ve19:rV 19 = undef:=hf 19 (by decide)
   have ve20:rV 20 = undef:=hf 20 (by decide)
   have ve21:rV 21 = undef:=hf 21 (by decide)
   have ve22:rV 22 = undef:=hf 22 (by decide)
   have ve23:rV 23 = undef:=hf 23 (by decide)
   have ve24:rV 24 = undef:=hf 24 (by decide)
   have ve25:rV 25 = .bool false:=hf 25 (by decide)
   have ve26:rV 26 = .bool false:=hf 26 (by decide)
   have ve27:rV 27 = undef:=hf 27 (by decide)
   have ve28:rV 28 = undef:=hf 28 (by decide)
   have ve29:rV 29 = undef:=hf 29 (by decide)
   have ve30:rV 30 = undef:=hf 30 (by decide)
   have ve31:rV 31 = undef:=hf 31 (by decide)
   have ve32:rV 32 = undef:=hf 32 (by decide)
   have ve33:rV 33 = undef:=hf 33 (by decide)
   have ve34:rV 34 = undef:=hf 34 (by decide)
   have ve35:rV 35 = undef:=hf 35 (by decide)
   have ve36:rV 36 = undef:=hf 36 (by decide)
   have ve37:rV 37 = undef:=hf 37 (by decide)
   have ve38:rV 38 = undef:=hf 38 (by decide)
   have ve39:rV 39 = undef:=hf 39 (by decide)
   have ve40:rV 40 = .bool false:=hf 40 (by decide)
   have ve41:rV 41 = .bool false:=hf 41 (by decide)
   clear hf
   simp only [List.zipIdx_cons,List.zipIdx_nil,List.foldl_cons,List.foldl_nil,Act.put,Nat.reduceAdd,List.setIfInBounds_toArray,List.set_cons_succ,List.set_cons_zero,ve0,ve1,ve2,ve3,ve4,ve5,ve6,ve7,ve8,ve9,ve10,ve11,ve12,ve13,ve14,ve15,ve16,ve17,ve18,ve19,ve20,ve21,ve22,ve23,ve24,ve25,ve26,ve27,ve28,ve29,ve30,ve31,ve32,ve33,ve34,ve35,ve36,ve37,ve38,ve39,ve40,ve41]
   clear ve0 ve1 ve2 ve3 ve4 ve5 ve6 ve7 ve8 ve9 ve10 ve11 ve12 ve13 ve14 ve15 ve16 ve17 ve18 ve19 ve20 ve21 ve22 ve23 ve24 ve25 ve26 ve27 ve28 ve29 ve30 ve31 ve32 ve33 ve34 ve35 ve36 ve37 ve38 ve39 ve40 ve41
   clear rV
   go_wp2_with fail
   go_meet
   exact ⟨rfl,HS2.out.below (ext_below hx6)⟩
 case rest =>
  obtain ⟨rfl,HS3⟩:=hcut
  clear HC HS2 HS1 HTA
  obtain ⟨r0,r1,r2,r3,rf0,rf1,rf2,rf3,rl⟩:=HS3.out.c4 0 rfl
  obtain ⟨rn,rm⟩:=HS3.out.ne 0 rfl
  by_cases k2:kd = 2
  ·subst k2
   obtain rfl:b = true:=by rw [← HB.out];rfl
   clear HB
   go_wp2_with fail
   go_ret
   exact ⟨rfl,HS3.out.P,HS3.out.T⟩
  have e2:(kd == 2) = false:=beq_eq_false_iff_ne.2 k2
  by_cases k3:kd = 3
  ·subst k3
   obtain rfl:b = true:=by rw [← HB.out];rfl
   clear HB k2
   go_wp2_with fail
   go_ret
   exact ⟨rfl,HS3.out.P,HS3.out.T⟩
  have e3:(kd == 3) = false:=beq_eq_false_iff_ne.2 k3
  have hB:=HB.out
  rw [e2,e3] at hB
  clear HB k2 k3
  go_wp2_with fail
  refine (H40.out _ HS3.out.P).mono ?_
  rintro e w4 ⟨rfl,hP,hT⟩
  have HS4:=Lib.hid (HS3.out.call hP hT)
  clear hP hT HS3
  clear r0 r1 r2 r3 rf0 rf1 rf2 rf3 rl
  cases b40 with
  | true =>
   obtain rfl:b = true:=by rw [← hB];rfl
   clear hB
   go_wp2_with fail
   go_ret
   exact ⟨rfl,HS4.out.P,HS4.out.T⟩
  | false =>
  have HB:=Lib.hid hB
  clear hB
  go_wp2_with fail
  refine (H45.out _ HS4.out.P).mono ?_
  rintro e w5 ⟨rfl,hP,hT⟩
  have HS5:=Lib.hid (HS4.out.call hP hT)
  clear hP hT HS4
  cases b45 with
  | true =>
   obtain rfl:b = true:=by rw [← HB.out];rfl
   clear HB
   go_wp2_with fail
   go_ret
   exact ⟨rfl,HS5.out.P,HS5.out.T⟩
  | false =>
  go_wp2_with fail
  refine (H33.out _ HS5.out.P).mono ?_
  rintro e w6 ⟨rfl,hP,hT⟩
  have HS6:=Lib.hid (HS5.out.call hP hT)
  clear hP hT HS5
  obtain ⟨r0,r1,r2,r3,rf0,rf1,rf2,rf3,rl⟩:=HS6.out.c4 0 rfl
  cases b33 with
  | true =>
   obtain rfl:b = true:=by rw [← HB.out];rfl
   clear HB
   go_wp2_with fail
   go_ret
   exact ⟨rfl,HS6.out.P,HS6.out.T⟩
  | false =>
  by_cases k1:kd = 1
  ·subst k1
   cases c with
   | true =>
    obtain rfl:b = true:=by rw [← HB.out];rfl
    clear HB
    go_wp2_with fail
    go_ret
    exact ⟨rfl,HS6.out.P,HS6.out.T⟩
   | false =>
    obtain rfl:b = !kp:=by rw [← HB.out];rfl
    clear HB
    go_wp2_with fail
    refine (HKT.out _).mono ?_
    rintro e w7 ⟨rfl,hb7⟩
    have HS7:=Lib.hid (HS6.out.below hb7)
    clear hb7 HS6
    go_wp2_with fail
    go_ret
    exact ⟨rfl,HS7.out.P,HS7.out.T⟩
  ·have e1:(kd == 1) = false:=beq_eq_false_iff_ne.2 k1
   obtain rfl:b = false:=by rw [← HB.out,e1];rfl
   clear HB k1
   go_wp2_with fail
   go_ret
   exact ⟨rfl,HS6.out.P,HS6.out.T⟩
end Go.Proofs.YtmfpmandkhiknaaGreatDoor.par
