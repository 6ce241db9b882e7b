/-
  Proved: a lent image is found kept (KeptImage). Conditions: as each theorem says.
  Proved: ArchiveImages returns true. Conditions: as each theorem says.
-/
import Derived.Test.YtifhnpkapgaboaaGreatPi39
import Derived.Test.YtifhnpkapgaboaaGreatPi29
import Derived.Test.YtifhnpkapgaboaaGreatPi37
set_option linter.unusedVariables false
set_option linter.unusedSimpArgs false
namespace Go.Proofs.YtifhnpkapgaboaaGreat.arch
open Go Go.RowKit
open heap
open path (sv str_size)
set_option maxRecDepth 100000
set_option maxHeartbeats 2000000 in
theorem KeptImage_any (ls:List (List Ent)) (A:Option Addr) (c g cap:Nat) (w:World) (h:LIn w A c ls) (hcm:c ≤ 9223372036854775807) (hk:LentI w 0 g cap ls) :
  Calls Tryz.prog 11 #[.agg #[.slice (some ⟨g,0,none⟩) ls.length cap],.agg #[.slice A ls.length c]] w fun e w'=>e = .returned (.bool true) ∧ Below w.heap.size w w':=by
 have H0:=Lib.hid (blk_old (blk_new w (.cells #[.slice (some ⟨g,0,none⟩) ls.length cap] 24 (0,0))) (.cells #[.slice A ls.length c] 24 (0,0)))
 have h1:=blk_new (w.alloc (.cells #[.slice (some ⟨g,0,none⟩) ls.length cap] 24 (0,0))) (.cells #[.slice A ls.length c] 24 (0,0))
 rw [World.size_alloc] at h1
 have H1:=Lib.hid h1
 have HB:Hid (Below w.heap.size w ((w.alloc (.cells #[.slice (some ⟨g,0,none⟩) ls.length cap] 24 (0,0))).alloc (.cells #[.slice A ls.length c] 24 (0,0)))):=((Below.refl _ _).alloc (Nat.le_refl _) _).alloc (by simp) _
 have HL:=Lib.hid h
 have HK:=Lib.hid hk
 have hlc:=h.1
 have hc1:=hk.cap1
 have hc2:=hk.cap2
 clear h h1 hk
 go_enter Tryz.func11,Tryz.ntmps11
 go_wp2_with fail
 change Code.wp _ _ _ _ ((w.alloc (.cells #[.slice (some ⟨g,0,none⟩) ls.length cap] 24 (0,0))).alloc (.cells #[.slice A ls.length c] 24 (0,0)))
 generalize ((w.alloc (.cells #[.slice (some ⟨g,0,none⟩) ls.length cap] 24 (0,0))).alloc (.cells #[.slice A ls.length c] 24 (0,0))) = w1 at *
 go_loopg [5] ls.length (fun kk v5 wr=>∃ i:Nat,i + kk = ls.length ∧ v5 = .int .i64 i ∧ Hid (Below w1.heap.size w1 wr))
 case atStart=>exact ⟨0,by omega,rfl,Below.refl _ _⟩
 case round =>
  obtain ⟨i,hik,rfl,HW⟩:=hrel
  have HWW:Hid (Below w.heap.size w wr):=HB.out.trans (HW.out.mono HB.out.size)
  have c0:=blk_cell (blk_below H0.out HW.out) 0
  have c1:=blk_cell (blk_below H1.out HW.out) 0
  have l0:=blk_lt (blk_below H0.out HW.out)
  have l1:=blk_lt (blk_below H1.out HW.out)
  simp only [List.getElem?_toArray,List.getElem?_cons_zero] at c0 c1
  by_cases hlt:i < ls.length
  ·cases gk with
   | zero=>omega
   | succ gk =>
   have hltI:(i:Int) < (ls.length:Int):=by omega
   obtain ⟨es,he⟩:∃ e,ls[i]? = some e:=⟨_,List.getElem?_eq_getElem hlt⟩
   rcases HL.out.2 with rfl | ⟨b,o,rfl,hb⟩
   ·simp at hlt
   obtain ⟨Ai,ci,y0,hy1,hy2⟩:=hb i es he
   obtain ⟨gi,di,x0,hx1⟩:=HK.out.inn i es he
   obtain ⟨k1,k2,k3,k4,k5,-⟩:=lent_at hx1
   have x0:=cell_below HWW.out x0
   have y0:=cell_below HWW.out y0
   have HX:=Lib.hid (k1.below HWW.out)
   have HY:=Lib.hid (hy1.below HWW.out)
   clear hb he hx1 hy1 k1
   go_wp2_with fail
   refine reg.region_each (by kernel_rfl) reg.Ext (fun ri v w'=>match ri with
     | 0=>v = .pointer (some ⟨w.heap.size,0,none⟩)
     | 1=>v = .slice (some ⟨g,0,none⟩) ls.length cap
     | 2=>v = .int .i64 i
     | 3=>v = .pointer (some ⟨g,i,none⟩)
     | 4=>v = .pointer (some ⟨g,i,none⟩)
     | 5=>v = .slice (some ⟨gi,0,none⟩) es.length di
     | 6=>v = .pointer (some ⟨w.heap.size + 1,0,none⟩)
     | 7=>v = .slice (some ⟨b,o,none⟩) ls.length c
     | 8=>v = .int .i64 i
     | 9=>v = .pointer (some ⟨b,o + i,none⟩)
     | 10=>v = .pointer (some ⟨b,o + i,none⟩)
     | 11=>v = .slice Ai es.length ci
     | 12=>v = .bool true
     | 13=>v = .bool false
     | _=>True) reg.Ext.refl reg.Ext.trans ?_ (by kernel_rfl) ?_ ?_
   ·
    intro i v w1 w2 h hx
    rcases i with _|_|_|_|_|_|_|_|_|_|_|_|_|_|i
    ·exact h
    ·exact h
    ·exact h
    ·exact h
    ·exact h
    ·exact h
    ·exact h
    ·exact h
    ·exact h
    ·exact h
    ·exact h
    ·exact h
    ·exact h
    ·exact h
    ·trivial
   ·
    refine ⟨?_,?_,?_,?_,?_,?_,?_,?_,?_,?_,?_,?_,?_,?_,trivial⟩
    ·-- 0: slot 21:=Op.fieldAddr 24 t2 0
     intro ra w' hx hs
     have s2:ra.eval (.tmp 2) = .pointer (some ⟨w.heap.size,0,none⟩):=hs.1
     clear hs
     have x0:=hx.cell x0
     have y0:=hx.cell y0
     have c0:=hx.cell c0
     have c1:=hx.cell c1
     change Oper.wp _ _ ra w' _ _
     refine reg.wp_value (v:=.pointer (some ⟨w.heap.size,0,none⟩)) (w':=w') ?_ ⟨_,rfl,reg.Ext.refl _,rfl⟩
     intro ρ rc rf rg re
     rw [re] at s2
     simp [execOp,go_sem,rc,rf,rg,s2] <;> first | omega | rfl | decide
    ·-- 1: slot 22:=Op.load 22 t21
     intro ra w' hx hs
     have s21:ra.eval (.tmp 21) = .pointer (some ⟨w.heap.size,0,none⟩):=hs.1
     clear hs
     have x0:=hx.cell x0
     have y0:=hx.cell y0
     have c0:=hx.cell c0
     have c1:=hx.cell c1
     change Oper.wp _ _ ra w' _ _
     refine reg.wp_value (v:=.slice (some ⟨g,0,none⟩) ls.length cap) (w':=w') ?_ ⟨_,rfl,reg.Ext.refl _,rfl⟩
     intro ρ rc rf rg re
     rw [re] at s21
     simp [execOp,go_sem,rc,rf,rg,s21,c0] <;> first | omega | rfl | decide
    ·-- 2: slot 23:=Op.move t5
     intro ra w' hx hs
     have s5:ra.eval (.tmp 5) = .int .i64 i:=hs.1
     clear hs
     have x0:=hx.cell x0
     have y0:=hx.cell y0
     have c0:=hx.cell c0
     have c1:=hx.cell c1
     change Oper.wp _ _ ra w' _ _
     refine reg.wp_value (v:=.int .i64 i) (w':=w') ?_ ⟨_,rfl,reg.Ext.refl _,rfl⟩
     intro ρ rc rf rg re
     rw [re] at s5
     simp [execOp,go_sem,rc,rf,rg,s5] <;> first | omega | rfl | decide
    ·-- 3: slot 24:=Op.indexAddr 22 t22 t23
     intro ra w' hx hs
     have s22:ra.eval (.tmp 22) = .slice (some ⟨g,0,none⟩) ls.length cap:=hs.1
     have s23:ra.eval (.tmp 23) = .int .i64 i:=hs.2.1
     clear hs
     have x0:=hx.cell x0
     have y0:=hx.cell y0
     have c0:=hx.cell c0
     have c1:=hx.cell c1
     change Oper.wp _ _ ra w' _ _
     refine reg.wp_value (v:=.pointer (some ⟨g,i,none⟩)) (w':=w') ?_ ⟨_,rfl,reg.Ext.refl _,rfl⟩
     intro ρ rc rf rg re
     rw [re] at s22 s23
     simp [execOp,go_sem,rc,rf,rg,s22,s23,hltI] <;> first | omega | rfl | decide
    ·-- 4: slot 25:=Op.fieldAddr 44 t24 0
     intro ra w' hx hs
     have s24:ra.eval (.tmp 24) = .pointer (some ⟨g,i,none⟩):=hs.1
     clear hs
     have x0:=hx.cell x0
     have y0:=hx.cell y0
     have c0:=hx.cell c0
     have c1:=hx.cell c1
     change Oper.wp _ _ ra w' _ _
     refine reg.wp_value (v:=.pointer (some ⟨g,i,none⟩)) (w':=w') ?_ ⟨_,rfl,reg.Ext.refl _,rfl⟩
     intro ρ rc rf rg re
     rw [re] at s24
     simp [execOp,go_sem,rc,rf,rg,s24] <;> first | omega | rfl | decide
    ·-- 5: slot 26:=Op.load 41 t25
     intro ra w' hx hs
     have s25:ra.eval (.tmp 25) = .pointer (some ⟨g,i,none⟩):=hs.1
     clear hs
     have x0:=hx.cell x0
     have y0:=hx.cell y0
     have c0:=hx.cell c0
     have c1:=hx.cell c1
     change Oper.wp _ _ ra w' _ _
     refine reg.wp_value (v:=.slice (some ⟨gi,0,none⟩) es.length di) (w':=w') ?_ ⟨_,rfl,reg.Ext.refl _,rfl⟩
     intro ρ rc rf rg re
     rw [re] at s25
     simp [execOp,go_sem,rc,rf,rg,s25,x0] <;> first | omega | rfl | decide
    ·-- 6: slot 27:=Op.fieldAddr 24 t3 0
     intro ra w' hx hs
     have s3:ra.eval (.tmp 3) = .pointer (some ⟨w.heap.size + 1,0,none⟩):=hs.1
     clear hs
     have x0:=hx.cell x0
     have y0:=hx.cell y0
     have c0:=hx.cell c0
     have c1:=hx.cell c1
     change Oper.wp _ _ ra w' _ _
     refine reg.wp_value (v:=.pointer (some ⟨w.heap.size + 1,0,none⟩)) (w':=w') ?_ ⟨_,rfl,reg.Ext.refl _,rfl⟩
     intro ρ rc rf rg re
     rw [re] at s3
     simp [execOp,go_sem,rc,rf,rg,s3] <;> first | omega | rfl | decide
    ·-- 7: slot 28:=Op.load 22 t27
     intro ra w' hx hs
     have s27:ra.eval (.tmp 27) = .pointer (some ⟨w.heap.size + 1,0,none⟩):=hs.1
     clear hs
     have x0:=hx.cell x0
     have y0:=hx.cell y0
     have c0:=hx.cell c0
     have c1:=hx.cell c1
     change Oper.wp _ _ ra w' _ _
     refine reg.wp_value (v:=.slice (some ⟨b,o,none⟩) ls.length c) (w':=w') ?_ ⟨_,rfl,reg.Ext.refl _,rfl⟩
     intro ρ rc rf rg re
     rw [re] at s27
     simp [execOp,go_sem,rc,rf,rg,s27,c1] <;> first | omega | rfl | decide
    ·-- 8: slot 29:=Op.move t5
     intro ra w' hx hs
     have s5:ra.eval (.tmp 5) = .int .i64 i:=hs.1
     clear hs
     have x0:=hx.cell x0
     have y0:=hx.cell y0
     have c0:=hx.cell c0
     have c1:=hx.cell c1
     change Oper.wp _ _ ra w' _ _
     refine reg.wp_value (v:=.int .i64 i) (w':=w') ?_ ⟨_,rfl,reg.Ext.refl _,rfl⟩
     intro ρ rc rf rg re
     rw [re] at s5
     simp [execOp,go_sem,rc,rf,rg,s5] <;> first | omega | rfl | decide
    ·-- 9: slot 30:=Op.indexAddr 22 t28 t29
     intro ra w' hx hs
     have s28:ra.eval (.tmp 28) = .slice (some ⟨b,o,none⟩) ls.length c:=hs.1
     have s29:ra.eval (.tmp 29) = .int .i64 i:=hs.2.1
     clear hs
     have x0:=hx.cell x0
     have y0:=hx.cell y0
     have c0:=hx.cell c0
     have c1:=hx.cell c1
     change Oper.wp _ _ ra w' _ _
     refine reg.wp_value (v:=.pointer (some ⟨b,o + i,none⟩)) (w':=w') ?_ ⟨_,rfl,reg.Ext.refl _,rfl⟩
     intro ρ rc rf rg re
     rw [re] at s28 s29
     simp [execOp,go_sem,rc,rf,rg,s28,s29,hltI] <;> first | omega | rfl | decide
    ·-- 10: slot 31:=Op.fieldAddr 44 t30 0
     intro ra w' hx hs
     have s30:ra.eval (.tmp 30) = .pointer (some ⟨b,o + i,none⟩):=hs.1
     clear hs
     have x0:=hx.cell x0
     have y0:=hx.cell y0
     have c0:=hx.cell c0
     have c1:=hx.cell c1
     change Oper.wp _ _ ra w' _ _
     refine reg.wp_value (v:=.pointer (some ⟨b,o + i,none⟩)) (w':=w') ?_ ⟨_,rfl,reg.Ext.refl _,rfl⟩
     intro ρ rc rf rg re
     rw [re] at s30
     simp [execOp,go_sem,rc,rf,rg,s30] <;> first | omega | rfl | decide
    ·-- 11: slot 32:=Op.load 41 t31
     intro ra w' hx hs
     have s31:ra.eval (.tmp 31) = .pointer (some ⟨b,o + i,none⟩):=hs.1
     clear hs
     have x0:=hx.cell x0
     have y0:=hx.cell y0
     have c0:=hx.cell c0
     have c1:=hx.cell c1
     change Oper.wp _ _ ra w' _ _
     refine reg.wp_value (v:=.slice Ai es.length ci) (w':=w') ?_ ⟨_,rfl,reg.Ext.refl _,rfl⟩
     intro ρ rc rf rg re
     rw [re] at s31
     simp [execOp,go_sem,rc,rf,rg,s31,y0] <;> first | omega | rfl | decide
    ·-- 12: slot 33:=Op.call { value (Operand.func 22),args := #[t26,t32],argTypes := #[41,41] }
     intro ra w' hx hs
     have s26:ra.eval (.tmp 26) = .slice (some ⟨gi,0,none⟩) es.length di:=hs.1
     have s32:ra.eval (.tmp 32) = .slice Ai es.length ci:=hs.2.1
     clear hs
     have x0:=hx.cell x0
     have y0:=hx.cell y0
     have c0:=hx.cell c0
     have c1:=hx.cell c1
     change Oper.wp _ _ ra w' _ _
     refine reg.wp_call (f:=22) (args := #[.slice (some ⟨gi,0,none⟩) es.length di,.slice Ai es.length ci]) (w':=w') ?_ ?_
     ·intro ρ rc rf rg re
      rw [re] at s26 s32
      simp [execOp,go_sem,rc,rf,rg,s26,s32] <;> first | omega | rfl | decide
     refine (KeptEntries_any es Ai gi ci di w' (HY.out.below ((Below.refl _ wr).drew.trans hx)) (HX.out.below ((Below.refl _ wr).drew.trans hx)) k4 k5 hy2).mono ?_
     rintro e w2 ⟨rfl,hb⟩
     exact ⟨_,rfl,_,rfl,hb,rfl⟩
    ·-- 13: slot 34:=Op.unOp UnOp.not 4 t33
     intro ra w' hx hs
     have s33:ra.eval (.tmp 33) = .bool true:=hs.1
     clear hs
     have x0:=hx.cell x0
     have y0:=hx.cell y0
     have c0:=hx.cell c0
     have c1:=hx.cell c1
     change Oper.wp _ _ ra w' _ _
     refine reg.wp_value (v:=.bool false) (w':=w') ?_ ⟨_,rfl,reg.Ext.refl _,rfl⟩
     intro ρ rc rf rg re
     rw [re] at s33
     simp [execOp,go_sem,rc,rf,rg,s33] <;> first | omega | rfl | decide
   intro rV w' hx hf
   have ve0:rV 0 = .pointer (some ⟨w.heap.size,0,none⟩):=hf 0 (by decide)
   have ve1:rV 1 = .slice (some ⟨g,0,none⟩) ls.length cap:=hf 1 (by decide)
   have ve2:rV 2 = .int .i64 i:=hf 2 (by decide)
   have ve3:rV 3 = .pointer (some ⟨g,i,none⟩):=hf 3 (by decide)
   have ve4:rV 4 = .pointer (some ⟨g,i,none⟩):=hf 4 (by decide)
   have ve5:rV 5 = .slice (some ⟨gi,0,none⟩) es.length di:=hf 5 (by decide)
   have ve6:rV 6 = .pointer (some ⟨w.heap.size + 1,0,none⟩):=hf 6 (by decide)
   have ve7:rV 7 = .slice (some ⟨b,o,none⟩) ls.length c:=hf 7 (by decide)
   have ve8:rV 8 = .int .i64 i:=hf 8 (by decide)
   have ve9:rV 9 = .pointer (some ⟨b,o + i,none⟩):=hf 9 (by decide)
   have ve10:rV 10 = .pointer (some ⟨b,o + i,none⟩):=hf 10 (by decide)
   have ve11:rV 11 = .slice Ai es.length ci:=hf 11 (by decide)
   have ve12:rV 12 = .bool true:=hf 12 (by decide)
   have ve13:rV 13 = .bool false:=hf 13 (by decide)
   clear hf
   simp only [List.zipIdx_cons,List.zipIdx_nil,List.foldl_cons,List.foldl_nil,Act.put,Nat.reduceAdd,List.setIfInBounds_toArray,List.set_cons_succ,List.set_cons_zero,ve0,ve1,ve2,ve3,ve4,ve5,ve6,ve7,ve8,ve9,ve10,ve11,ve12,ve13]
   clear ve0 ve1 ve2 ve3 ve4 ve5 ve6 ve7 ve8 ve9 ve10 ve11 ve12 ve13
   clear rV
   go_wp2_with fail
   go_roundg gk
   case rel=>exact ⟨i + 1,by omega,by go_num,HW.out.drew.trans (hx.mono (Nat.le_trans HW.out.size (Nat.le_refl _)))⟩
   case measure=>omega
  ·have hil:i = ls.length:=by omega
   subst hil
   have hn:¬ (ls.length:Int) < (ls.length:Int):=by omega
   obtain ⟨gr,-,x0,x1⟩:=HK.out.room
   have x0:=cell_below HWW.out x0
   have x1:=cell_below HWW.out x1
   have gl0:g < wr.heap.size:=World.block_lt_of_cell? _ _ x0
   have gl1:gr < wr.heap.size:=World.block_lt_of_cell? _ _ x1
   have hpos:0 ≤ (ls.length:Int) + 1:=by omega
   have hlw:IntKind.i64.wrap ((ls.length:Int) + 1) = (ls.length:Int) + 1:=IntWalk.i64_in _ (by omega)
   have hlt2:(ls.length:Int) < (ls.length:Int) + 1:=by omega
   have hle2:(ls.length:Int) + 1 ≤ (cap:Int):=by omega
   go_upto_region 8 with fail
   go_region
   have HB2:Hid (Below w.heap.size w (wr.alloc (.cells #[.slice (some ⟨gr,0,none⟩) 1 1] 44 (0,0))).drew):=(HWW.out.alloc HWW.out.size _).drew
   have k0:(wr.alloc (.cells #[.slice (some ⟨gr,0,none⟩) 1 1] 44 (0,0))).drew.cell? ⟨wr.heap.size,0,none⟩ = some (.slice (some ⟨gr,0,none⟩) 1 1):=blk_cell (w:=(wr.alloc (.cells #[.slice (some ⟨gr,0,none⟩) 1 1] 44 (0,0))).drew) (blk_new wr _) 0
   have k1:(wr.alloc (.cells #[.slice (some ⟨gr,0,none⟩) 1 1] 44 (0,0))).drew.cell? ⟨gr,0,none⟩ = some (sv roomE.path):=cell_below (w:=wr) ((Below.refl _ _).alloc (Nat.le_refl _) _).drew x1
   have kl:wr.heap.size < (wr.alloc (.cells #[.slice (some ⟨gr,0,none⟩) 1 1] 44 (0,0))).drew.heap.size:=by show _ < (wr.alloc _).heap.size;simp
   generalize (wr.alloc (.cells #[.slice (some ⟨gr,0,none⟩) 1 1] 44 (0,0))).drew = w2 at *
   clear c0 c1 x0 x1 l0 l1 gl0 gl1
   go_wp2_with fail
   go_ret
   exact ⟨rfl,HB2.out⟩
set_option maxHeartbeats 2000000 in
theorem images_any (ls:List (List Ent)) (A:Option Addr) (c:Nat) (w:World) (h:LIn w A c ls) (hcm:c ≤ 9223372036854775807) (hn:ls.length ≤ 1048576) (hes:∀ es ∈ ls,es.length ≤ 1048576) (hp:∀ es ∈ ls,∀ x ∈ es,small x) :
  Calls Tryz.prog 3 #[.agg #[.slice A ls.length c]] w fun e w'=>e = .returned (.bool true) ∧ Below w.heap.size w w':=by
 have HX:=Lib.hid (blk_new w (.cells #[.slice A ls.length c] 24 (0,0)))
 have HB:Hid (Below w.heap.size w (w.alloc (.cells #[.slice A ls.length c] 24 (0,0)))):=(Below.refl _ _).alloc (Nat.le_refl _) _
 have HI:=Lib.hid h
 have HES:=Lib.hid hes
 have HP:=Lib.hid hp
 clear h hp hes
 go_enter Tryz.func3,Tryz.ntmps3
 go_wp2_with fail
 refine (LendImage_any ls A c _ (HI.out.below HB.out) hcm (by omega) (fun es he=>by have:=HES.out es he;omega)).mono ?_;rintro e w1 ⟨g,cap,rfl,hr,hb⟩
 have HG:=Lib.hid hr
 have HX1:=Lib.hid (blk_below HX.out hb)
 have HB1:=Lib.hid (HB.out.trans (hb.mono HB.out.size))
 have hxl:=blk_lt HX1.out
 have hg0:w.heap.size + 1 ≤ g:=by have:=hr.lo;simpa using this
 clear hr hb HX HB
 go_wp2_with fail
 have HB2:Hid (Below w.heap.size w (w1.alloc (.cells #[.slice (some ⟨g,0,none⟩) ls.length cap] 24 (0,0)))):=HB1.out.alloc HB1.out.size _
 have HY:=Lib.hid (blk_new w1 (.cells #[.slice (some ⟨g,0,none⟩) ls.length cap] 24 (0,0)))
 have HX2:=Lib.hid (blk_old HX1.out (.cells #[.slice (some ⟨g,0,none⟩) ls.length cap] 24 (0,0)))
 have HG2:=Lib.hid (HG.out.below ((Below.refl _ _).alloc (Nat.le_refl _) (.cells #[.slice (some ⟨g,0,none⟩) ls.length cap] 24 (0,0))))
 clear HX1 HB1 HG
 change Calls _ _ _ (w1.alloc (.cells #[.slice (some ⟨g,0,none⟩) ls.length cap] 24 (0,0))) _
 have hww:w1.heap.size ≠ w.heap.size:=by omega
 generalize (w1.alloc (.cells #[.slice (some ⟨g,0,none⟩) ls.length cap] 24 (0,0))) = w2 at *
 generalize w1.heap.size = by' at *
 refine (EncodeImage_any ls (some ⟨g,0,none⟩) cap w2 HG2.out.lin HG2.out.cap2 (fun es he x hx=>by have:=HP.out es he x hx;exact ⟨by have:=this.1;omega,by have:=this.2;omega⟩)).mono ?_;rintro e w3 ⟨rfl,hb⟩
 have HY3:=Lib.hid (blk_below HY.out hb)
 have HX3:=Lib.hid (blk_below HX2.out hb)
 have HB3:=Lib.hid (HB2.out.trans (hb.mono HB2.out.size))
 have HG3:=Lib.hid (HG2.out.below hb)
 clear hb HY HX2 HB2 HG2
 have x0:=blk_cell HX3.out 0
 have xl:=blk_lt HX3.out
 simp only [List.getElem?_toArray,List.getElem?_cons_zero] at x0
 go_wp2_with fail
 refine (doc.rEncodeImage_any ls A c w3 (HI.out.below HB3.out) hcm HP.out).mono ?_;rintro e w4 ⟨rfl,hb⟩
 have HY4:=Lib.hid (blk_below HY3.out hb)
 have HX4:=Lib.hid (blk_below HX3.out hb)
 have HB4:=Lib.hid (HB3.out.trans (hb.mono HB3.out.size))
 have HG4:=Lib.hid (HG3.out.below hb)
 clear hb HY3 HX3 HB3 HG3 x0 xl
 obtain ⟨s1,k1,f1⟩:=encI ls
 have hs1:((⟨s1.toArray⟩:ByteArray) == ⟨s1.toArray⟩) = true:=(MapKept.bytes_beq _ _).2 rfl
 simp only
 go_wp2_with fail
 have x0:=blk_cell HX4.out 0
 have xl:=blk_lt HX4.out
 have y0:=blk_cell HY4.out 0
 have yl:=blk_lt HY4.out
 simp only [List.getElem?_toArray,List.getElem?_cons_zero] at x0 y0
 refine (Num_any _ _).mono ?_;rintro e w' ⟨rfl,rfl⟩
 go_wp2_with fail
 refine (KeptImage_any ls A c g cap w4 (HI.out.below HB4.out) hcm (HG4.out.low (Turned.refl [] _) (by simp) (Nat.zero_le _))).mono ?_;rintro e w5 ⟨rfl,hb⟩
 have HB5:=Lib.hid (HB4.out.trans (hb.mono HB4.out.size))
 clear hb
 go_wp2_with fail
 refine (awake_any _).mono ?_;rintro e w6 ⟨rfl,hb⟩
 have HB6:=Lib.hid (HB5.out.trans (hb.mono HB5.out.size))
 clear hb
 go_wp2_with fail
 go_ret
 exact ⟨rfl,HB6.out⟩
end Go.Proofs.YtifhnpkapgaboaaGreat.arch
