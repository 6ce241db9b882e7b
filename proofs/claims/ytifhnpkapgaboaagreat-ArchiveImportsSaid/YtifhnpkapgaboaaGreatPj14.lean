/-
  Proved: what the program's Laid, Encode give. Conditions: as each theorem says.
-/
import Derived.Test.YtifhnpkapgaboaaGreatPj13
set_option linter.unusedVariables false
set_option linter.unusedSimpArgs false
namespace Go.Proofs.YtifhnpkapgaboaaGreat.arch
open Go.RowKit
open heap
open path (sv str_size cleanB cleanR belowB)
set_option maxRecDepth 100000
def LX (b j:Nat) (w w':World):Prop:=(j = 23 ∧ Below b w w') ∨ (j ≠ 23 ∧ Below w.heap.size w w')
theorem LX.b {b j:Nat} {w w':World} (h:LX b j w w') (hb:b ≤ w.heap.size):Below b w w':=by
 rcases h with ⟨-,h⟩ | ⟨-,h⟩
 ·exact h
 ·exact h.mono hb
theorem LX.ext {b j:Nat} {w w':World} (h:LX b j w w') (hj:23 ≠ j):Below w.heap.size w w':=by
 rcases h with ⟨h,-⟩ | ⟨-,h⟩
 ·exact absurd h.symm hj
 ·exact h
theorem LX.mk {b j:Nat} {w w':World} (hj:j ≠ 23) (h:Below w.heap.size w w'):LX b j w w':=.inr ⟨hj,h⟩
set_option maxHeartbeats 8000000 in
theorem Laid_any (es:List Ent) (b o c:Nat) (w:World) (h:EAt w b o es) (hc:es.length ≤ c) (hcm:c ≤ 9223372036854775807) (hf:(formL es).2 = 0) :
  Calls Tryz.prog 32 #[layV b o es.length c] w fun r w'=>r = .returned (sv (streamL es)) ∧ Below w.heap.size w w':=by
 have HB:Hid (Below w.heap.size w (w.alloc (.cells #[.slice (some ⟨b,o,none⟩) es.length c] 44 (0,0)))):=(Below.refl _ _).alloc (Nat.le_refl _) _
 have HBX:=Lib.hid (blk_new w (.cells #[.slice (some ⟨b,o,none⟩) es.length c] 44 (0,0)))
 obtain ⟨h256,hok⟩:=form_ok hf
 have HOK:=Lib.hid hok
 have HBL:=Lib.hid (body_len es (fun x hx=>⟨(hok x hx).2.2.2.1,(hok x hx).2.2.2.2.2.2⟩))
 have HE:=Lib.hid h
 clear h hf hok
 go_enter Tryz.func32,Tryz.ntmps32
 go_upto_region 2 with fail
 change Code.wp _ _ _ _ ((w.alloc (.cells #[.slice (some ⟨b,o,none⟩) es.length c] 44 (0,0))).alloc (.cells #[.pointer none,.slice none 0 0] 127 (0,0)))
 have HIS0:=Lib.hid (new_builder (w.alloc (.cells #[.slice (some ⟨b,o,none⟩) es.length c] 44 (0,0))))
 have hsz:(w.alloc (.cells #[.slice (some ⟨b,o,none⟩) es.length c] 44 (0,0))).heap.size = w.heap.size + 1:=by simp
 rw [hsz] at HIS0
 have HB1:Hid (Below w.heap.size w ((w.alloc (.cells #[.slice (some ⟨b,o,none⟩) es.length c] 44 (0,0))).alloc (.cells #[.pointer none,.slice none 0 0] 127 (0,0)))):=HB.out.alloc HB.out.size _
 have HBX1:=Lib.hid (blk_old HBX.out (.cells #[.pointer none,.slice none 0 0] 127 (0,0)))
 generalize ((w.alloc (.cells #[.slice (some ⟨b,o,none⟩) es.length c] 44 (0,0))).alloc (.cells #[.pointer none,.slice none 0 0] 127 (0,0))) = w1 at *
 clear hsz HB HBX
 have HWS:=Lib.hid (ws_any (w.heap.size + 1) [] [79,82,76] w1 HIS0.out (by simp))
 go_wp2_with fail
 refine HWS.out.mono ?_;rintro r w2 ⟨rfl,his,hb⟩
 have HIS:=Lib.hid his
 have HBX2:=Lib.hid ((hb.block w.heap.size (by omega)).trans HBX1.out)
 have HB2:Hid (Below w.heap.size w w2):=HB1.out.trans (hb.mono (by omega))
 clear his hb HWS HBX1 HB1 HIS0
 have q0:=blk_cell HBX2.out 0
 have ql:=blk_lt HBX2.out
 simp only [List.getElem?_toArray,List.getElem?_cons_zero] at q0
 go_wp2_with fail
 clear q0 ql
 go_loopg [10] es.length (fun kk v10 wr=>∃ i:Nat,i + kk = es.length ∧ v10 = .int .i64 i ∧ Hid (IsB (w.heap.size + 1) ([79,82,76] ++ bodyS (es.take i)) wr) ∧ Hid (Below w.heap.size w wr))
 case atStart=>exact ⟨0,by omega,rfl,by rw [List.take_zero];exact HIS,HB2⟩
 case round =>
  clear HIS HB2 HBX2
  obtain ⟨i,hik,rfl,HIS,HBw⟩:=hrel
  have hbl:=HBL.out i (by omega)
  by_cases hlt:i < es.length
  ·cases gk with
   | zero=>omega
   | succ gk =>
   obtain ⟨x,hx⟩:∃ x,es[i]? = some x:=⟨_,List.getElem?_eq_getElem hlt⟩
   obtain ⟨x0,x1,x2,x3⟩:=(HE.out.below HBw.out) i x hx
   have hxx:=HOK.out x (List.mem_of_getElem? hx)
   have HSN:=Lib.hid (body_snoc es i x hx)
   have hii:(i:Int) < (es.length:Int):=by omega
   obtain ⟨hk1,hk5,-,hpl,hm0,hm5,hdl⟩:=hxx
   have HNEW:=Lib.hid (blk_new wr (entO x))
   have HBA:Hid (Below wr.heap.size wr (wr.alloc (entO x))):=(Below.refl _ _).alloc (Nat.le_refl _) _
   have HIS2:=Lib.hid (HIS.out.below HBA.out)
   have HBw2:Hid (Below w.heap.size w (wr.alloc (entO x))):=HBw.out.trans (HBA.out.mono HBw.out.size)
   clear hx
   go_upto_region 6 with fail
   change Code.wp _ _ _ _ (wr.alloc (entO x))
   generalize (wr.alloc (entO x)) = W0 at *
   generalize wr.heap.size = b5 at *
   clear x0 x1 x2 x3
   obtain ⟨k,hk⟩:∃ k:Nat,x.kind = (k:Int):=⟨x.kind.toNat,by omega⟩
   obtain ⟨m,hm⟩:∃ m:Nat,x.mode = (m:Int):=⟨x.mode.toNat,by omega⟩
   have HN2:Hid (W0.heap[b5]? = some (.cells #[.string ⟨x.path.toArray⟩,.int .i64 k,.int .i64 m,.string ⟨x.data.toArray⟩] 58 (0,0))):=by
    have:=HNEW.out
    unfold entO at this
    rw [hk,hm] at this
    exact this
   have HT0:=Lib.hid (fun W=>le1_any k W (by omega))
   have HT1:=Lib.hid (fun W=>le1_any x.path.length W (by omega))
   have HT2:=Lib.hid (fun W=>le2_any m W (by omega))
   have HT3:=Lib.hid (fun W=>le2_any x.data.length W (by omega))
   have hes:=entS_app [] x
   rw [hk,hm] at hes
   simp only [Int.toNat_natCast,List.nil_append] at hes
   have HES:Hid (((((((⟨([UInt8.ofNat k]:Nm).toArray⟩:ByteArray) ++ ⟨([UInt8.ofNat x.path.length]:Nm).toArray⟩) ++ ⟨x.path.toArray⟩) ++ ⟨(le2 m).toArray⟩) ++ ⟨(le2 x.data.length).toArray⟩) ++ ⟨x.data.toArray⟩) = (⟨(entS x).toArray⟩:ByteArray)):=by
    unfold Hid
    rw [app_str,app_str,app_str,app_str,app_str,← hes]
    simp
   have HWX:=Lib.hid (fun W hW=>ws_any (w.heap.size + 1) ([79,82,76] ++ bodyS (es.take i)) (entS x) W hW (by
    have:=ent_len x hpl hdl
    rw [List.length_append];simp;omega))
   have HACC:Hid (([79,82,76] ++ bodyS (es.take i)) ++ entS x = [79,82,76] ++ bodyS (es.take (i + 1))):=by unfold Hid;rw [HSN.out,List.append_assoc]
   rw [HACC.out] at HWX
   have z0:(⟨([UInt8.ofNat k]:Nm).toArray⟩:ByteArray).size = 1:=by rw [str_size];rfl
   have z1:(⟨([UInt8.ofNat x.path.length]:Nm).toArray⟩:ByteArray).size = 1:=by rw [str_size];rfl
   have z2:(⟨x.path.toArray⟩:ByteArray).size ≤ 140:=by rw [str_size];exact hpl
   have z3:(⟨(le2 m).toArray⟩:ByteArray).size = 2:=by rw [str_size];rfl
   have z4:(⟨(le2 x.data.length).toArray⟩:ByteArray).size = 2:=by rw [str_size];rfl
   have z5:(⟨x.data.toArray⟩:ByteArray).size ≤ 1024:=by rw [str_size];exact hdl
   have zp:((⟨x.path.toArray⟩:ByteArray).size:Int) = (x.path.length:Int):=by rw [str_size]
   have zd:((⟨x.data.toArray⟩:ByteArray).size:Int) = (x.data.length:Int):=by rw [str_size]
   have hb3:=HIS2.out.lt
   clear HSN hm hk hes HACC HNEW
   unfold sv at HT0 HT1 HT2 HT3 HWX
   generalize (⟨([UInt8.ofNat k]:Nm).toArray⟩:ByteArray) = A0 at *
   generalize (⟨([UInt8.ofNat x.path.length]:Nm).toArray⟩:ByteArray) = A1 at *
   generalize (⟨(le2 m).toArray⟩:ByteArray) = A3 at *
   generalize (⟨(le2 x.data.length).toArray⟩:ByteArray) = A4 at *
   generalize (⟨x.path.toArray⟩:ByteArray) = A2 at *
   generalize (⟨x.data.toArray⟩:ByteArray) = A5 at *
   generalize (⟨(entS x).toArray⟩:ByteArray) = AE at *
   refine reg.region_eachG (by kernel_rfl) (LX (w.heap.size + 1)) (fun w'=>Below (w.heap.size + 1) W0 w') (fun ri v w'=>match ri with
     | 0=>v = .pointer (some ⟨b5,1,none⟩)
     | 1=>v = .int .i64 k
     | 2=>v = .string A0
     | 3=>v = .pointer (some ⟨b5,0,none⟩)
     | 4=>v = .string A2
     | 5=>v = .int .i64 x.path.length
     | 6=>v = .string A1
     | 7=>v = .string (A0 ++ A1)
     | 8=>v = .pointer (some ⟨b5,0,none⟩)
     | 9=>v = .string A2
     | 10=>v = .string ((A0 ++ A1) ++ A2)
     | 11=>v = .pointer (some ⟨b5,2,none⟩)
     | 12=>v = .int .i64 m
     | 13=>v = .string A3
     | 14=>v = .string (((A0 ++ A1) ++ A2) ++ A3)
     | 15=>v = .pointer (some ⟨b5,3,none⟩)
     | 16=>v = .string A5
     | 17=>v = .int .i64 x.data.length
     | 18=>v = .string A4
     | 19=>v = .string ((((A0 ++ A1) ++ A2) ++ A3) ++ A4)
     | 20=>v = .pointer (some ⟨b5,3,none⟩)
     | 21=>v = .string A5
     | 22=>v = .string AE
     | 23=>IsB (w.heap.size + 1) ([79,82,76] ++ bodyS (es.take (i + 1))) w'
     | _=>True) (fun rk w'=>match rk with
     | 23=>w'.heap[b5]? = some (.cells #[.string A2,.int .i64 k,.int .i64 m,.string A5] 58 (0,0)) ∧ IsB (w.heap.size + 1) ([79,82,76] ++ bodyS (es.take i)) w'
     | _=>True) ?_ ?_ ?_ ?_ ?_ (by kernel_rfl) ?_ ?_
   ·exact (Below.refl _ _).drew
   ·
    intro k
    split <;> first | trivial | (exact ⟨HN2.out,HIS2.out.below (Below.refl _ _).drew⟩)
   ·
    intro j w1 w2 h hx
    exact h.trans (hx.b (Nat.le_trans (Nat.le_of_lt hb3) h.size))
   ·
    intro j i v w1 w2 hij hj hr h hx
    rcases i with _|_|_|_|_|_|_|_|_|_|_|_|_|_|_|_|_|_|_|_|_|_|_|_|i
    ·exact h
    ·exact h
    ·exact h
    ·exact h
    ·exact h
    ·exact h
    ·exact h
    ·exact h
    ·exact h
    ·exact h
    ·exact h
    ·exact h
    ·exact h
    ·exact h
    ·exact h
    ·exact h
    ·exact h
    ·exact h
    ·exact h
    ·exact h
    ·exact h
    ·exact h
    ·exact h
    ·exact (reg.last_no (by kernel_rfl) hij hj hr).elim
    ·trivial
   ·
    intro j k w1 w2 hkj h hx
    split at h <;> first | exact h | exact ⟨blk_below h.1 (hx.ext hkj),h.2.below (hx.ext hkj)⟩
   ·
    refine ⟨?_,?_,?_,?_,?_,?_,?_,?_,?_,?_,?_,?_,?_,?_,?_,?_,?_,?_,?_,?_,?_,?_,?_,?_,trivial⟩
    ·-- 0: slot 14:=Op.fieldAddr 58 t5 1
     intro ra w' hx hg hs
     have s5:ra.eval (.tmp 5) = .pointer (some ⟨b5,0,none⟩):=hs.1
     clear hs
     have c0:=blk_cell (hg 23 rfl).1 0
     have c1:=blk_cell (hg 23 rfl).1 1
     have c2:=blk_cell (hg 23 rfl).1 2
     have c3:=blk_cell (hg 23 rfl).1 3
     simp only [List.getElem?_toArray,List.getElem?_cons_zero,List.getElem?_cons_succ] at c0 c1 c2 c3
     change Oper.wp _ _ ra w' _ _
     refine reg.wp_value (v:=.pointer (some ⟨b5,1,none⟩)) (w':=w') ?_ ⟨_,rfl,LX.mk (by decide) (Below.refl _ _),rfl⟩
     intro ρ rc rf rg re
     rw [re] at s5
     simp [execOp,go_sem,rc,rf,rg,s5] <;> first | omega | rfl | decide
    ·-- 1: slot 15:=Op.load 3 t14
     intro ra w' hx hg hs
     have s14:ra.eval (.tmp 14) = .pointer (some ⟨b5,1,none⟩):=hs.1
     clear hs
     have c0:=blk_cell (hg 23 rfl).1 0
     have c1:=blk_cell (hg 23 rfl).1 1
     have c2:=blk_cell (hg 23 rfl).1 2
     have c3:=blk_cell (hg 23 rfl).1 3
     simp only [List.getElem?_toArray,List.getElem?_cons_zero,List.getElem?_cons_succ] at c0 c1 c2 c3
     change Oper.wp _ _ ra w' _ _
     refine reg.wp_value (v:=.int .i64 k) (w':=w') ?_ ⟨_,rfl,LX.mk (by decide) (Below.refl _ _),rfl⟩
     intro ρ rc rf rg re
     rw [re] at s14
     simp [execOp,go_sem,rc,rf,rg,s14,c1] <;> first | omega | rfl | decide
    ·-- 2: slot 16:=Op.call { value (Operand.func 29),args := #[t15,const (1:i64)],argTypes := #[3,3] }
     intro ra w' hx hg hs
     have s15:ra.eval (.tmp 15) = .int .i64 k:=hs.1
     clear hs
     have c0:=blk_cell (hg 23 rfl).1 0
     have c1:=blk_cell (hg 23 rfl).1 1
     have c2:=blk_cell (hg 23 rfl).1 2
     have c3:=blk_cell (hg 23 rfl).1 3
     simp only [List.getElem?_toArray,List.getElem?_cons_zero,List.getElem?_cons_succ] at c0 c1 c2 c3
     change Oper.wp _ _ ra w' _ _
     refine reg.wp_call (f:=29) (args := #[.int .i64 k,.int .i64 1]) (w':=w') ?_ ?_
     ·intro ρ rc rf rg re
      rw [re] at s15
      simp [execOp,go_sem,rc,rf,rg,s15] <;> first | omega | rfl | decide
     refine (HT0.out _).mono ?_
     rintro e w2 ⟨rfl,hb⟩
     exact ⟨_,rfl,_,rfl,LX.mk (by decide) hb,rfl⟩
    ·-- 3: slot 17:=Op.fieldAddr 58 t5 0
     intro ra w' hx hg hs
     have s5:ra.eval (.tmp 5) = .pointer (some ⟨b5,0,none⟩):=hs.1
     clear hs
     have c0:=blk_cell (hg 23 rfl).1 0
     have c1:=blk_cell (hg 23 rfl).1 1
     have c2:=blk_cell (hg 23 rfl).1 2
     have c3:=blk_cell (hg 23 rfl).1 3
     simp only [List.getElem?_toArray,List.getElem?_cons_zero,List.getElem?_cons_succ] at c0 c1 c2 c3
     change Oper.wp _ _ ra w' _ _
     refine reg.wp_value (v:=.pointer (some ⟨b5,0,none⟩)) (w':=w') ?_ ⟨_,rfl,LX.mk (by decide) (Below.refl _ _),rfl⟩
     intro ρ rc rf rg re
     rw [re] at s5
     simp [execOp,go_sem,rc,rf,rg,s5] <;> first | omega | rfl | decide
    ·-- 4: slot 18:=Op.load 9 t17
     intro ra w' hx hg hs
     have s17:ra.eval (.tmp 17) = .pointer (some ⟨b5,0,none⟩):=hs.1
     clear hs
     have c0:=blk_cell (hg 23 rfl).1 0
     have c1:=blk_cell (hg 23 rfl).1 1
     have c2:=blk_cell (hg 23 rfl).1 2
     have c3:=blk_cell (hg 23 rfl).1 3
     simp only [List.getElem?_toArray,List.getElem?_cons_zero,List.getElem?_cons_succ] at c0 c1 c2 c3
     change Oper.wp _ _ ra w' _ _
     refine reg.wp_value (v:=.string A2) (w':=w') ?_ ⟨_,rfl,LX.mk (by decide) (Below.refl _ _),rfl⟩
     intro ρ rc rf rg re
     rw [re] at s17
     simp [execOp,go_sem,rc,rf,rg,s17,c0] <;> first | omega | rfl | decide
    ·-- 5: slot 19:=Op.call { builtin len,args := #[t18],argTypes := #[9] }
     intro ra w' hx hg hs
     have s18:ra.eval (.tmp 18) = .string A2:=hs.1
     clear hs
     have c0:=blk_cell (hg 23 rfl).1 0
     have c1:=blk_cell (hg 23 rfl).1 1
     have c2:=blk_cell (hg 23 rfl).1 2
     have c3:=blk_cell (hg 23 rfl).1 3
     simp only [List.getElem?_toArray,List.getElem?_cons_zero,List.getElem?_cons_succ] at c0 c1 c2 c3
     change Oper.wp _ _ ra w' _ _
     refine reg.wp_value (v:=.int .i64 x.path.length) (w':=w') ?_ ⟨_,rfl,LX.mk (by decide) (Below.refl _ _),rfl⟩
     intro ρ rc rf rg re
     rw [re] at s18
     simp [execOp,go_sem,rc,rf,rg,s18,zp] <;> first | omega | rfl | decide
    ·-- 6: slot 20:=Op.call { value (Operand.func 29),args := #[t19,const (1:i64)],argTypes := #[3,3] }
     intro ra w' hx hg hs
     have s19:ra.eval (.tmp 19) = .int .i64 x.path.length:=hs.1
     clear hs
     have c0:=blk_cell (hg 23 rfl).1 0
     have c1:=blk_cell (hg 23 rfl).1 1
     have c2:=blk_cell (hg 23 rfl).1 2
     have c3:=blk_cell (hg 23 rfl).1 3
     simp only [List.getElem?_toArray,List.getElem?_cons_zero,List.getElem?_cons_succ] at c0 c1 c2 c3
     change Oper.wp _ _ ra w' _ _
     refine reg.wp_call (f:=29) (args := #[.int .i64 x.path.length,.int .i64 1]) (w':=w') ?_ ?_
     ·intro ρ rc rf rg re
      rw [re] at s19
      simp [execOp,go_sem,rc,rf,rg,s19] <;> first | omega | rfl | decide
     refine (HT1.out _).mono ?_
     rintro e w2 ⟨rfl,hb⟩
     exact ⟨_,rfl,_,rfl,LX.mk (by decide) hb,rfl⟩
    ·-- 7: slot 21:=Op.binOp BinOp.add 9 t16 t20 9
     intro ra w' hx hg hs
     have s16:ra.eval (.tmp 16) = .string A0:=hs.1
     have s20:ra.eval (.tmp 20) = .string A1:=hs.2.1
     clear hs
     have c0:=blk_cell (hg 23 rfl).1 0
     have c1:=blk_cell (hg 23 rfl).1 1
     have c2:=blk_cell (hg 23 rfl).1 2
     have c3:=blk_cell (hg 23 rfl).1 3
     simp only [List.getElem?_toArray,List.getElem?_cons_zero,List.getElem?_cons_succ] at c0 c1 c2 c3
     change Oper.wp _ _ ra w' _ _
     refine reg.wp_value (v:=.string (A0 ++ A1)) (w':=w') ?_ ⟨_,rfl,LX.mk (by decide) (Below.refl _ _),rfl⟩
     intro ρ rc rf rg re
     rw [re] at s16 s20
     simp [execOp,go_sem,rc,rf,rg,s16,s20] <;> first | omega | rfl | decide
    ·-- 8: slot 22:=Op.fieldAddr 58 t5 0
     intro ra w' hx hg hs
     have s5:ra.eval (.tmp 5) = .pointer (some ⟨b5,0,none⟩):=hs.1
     clear hs
     have c0:=blk_cell (hg 23 rfl).1 0
     have c1:=blk_cell (hg 23 rfl).1 1
     have c2:=blk_cell (hg 23 rfl).1 2
     have c3:=blk_cell (hg 23 rfl).1 3
     simp only [List.getElem?_toArray,List.getElem?_cons_zero,List.getElem?_cons_succ] at c0 c1 c2 c3
     change Oper.wp _ _ ra w' _ _
     refine reg.wp_value (v:=.pointer (some ⟨b5,0,none⟩)) (w':=w') ?_ ⟨_,rfl,LX.mk (by decide) (Below.refl _ _),rfl⟩
     intro ρ rc rf rg re
     rw [re] at s5
     simp [execOp,go_sem,rc,rf,rg,s5] <;> first | omega | rfl | decide
    ·-- 9: slot 23:=Op.load 9 t22
     intro ra w' hx hg hs
     have s22:ra.eval (.tmp 22) = .pointer (some ⟨b5,0,none⟩):=hs.1
     clear hs
     have c0:=blk_cell (hg 23 rfl).1 0
     have c1:=blk_cell (hg 23 rfl).1 1
     have c2:=blk_cell (hg 23 rfl).1 2
     have c3:=blk_cell (hg 23 rfl).1 3
     simp only [List.getElem?_toArray,List.getElem?_cons_zero,List.getElem?_cons_succ] at c0 c1 c2 c3
     change Oper.wp _ _ ra w' _ _
     refine reg.wp_value (v:=.string A2) (w':=w') ?_ ⟨_,rfl,LX.mk (by decide) (Below.refl _ _),rfl⟩
     intro ρ rc rf rg re
     rw [re] at s22
     simp [execOp,go_sem,rc,rf,rg,s22,c0] <;> first | omega | rfl | decide
    ·-- 10: slot 24:=Op.binOp BinOp.add 9 t21 t23 9
     intro ra w' hx hg hs
     have s21:ra.eval (.tmp 21) = .string (A0 ++ A1):=hs.1
     have s23:ra.eval (.tmp 23) = .string A2:=hs.2.1
     clear hs
     have c0:=blk_cell (hg 23 rfl).1 0
     have c1:=blk_cell (hg 23 rfl).1 1
     have c2:=blk_cell (hg 23 rfl).1 2
     have c3:=blk_cell (hg 23 rfl).1 3
     simp only [List.getElem?_toArray,List.getElem?_cons_zero,List.getElem?_cons_succ] at c0 c1 c2 c3
     change Oper.wp _ _ ra w' _ _
     refine reg.wp_value (v:=.string ((A0 ++ A1) ++ A2)) (w':=w') ?_ ⟨_,rfl,LX.mk (by decide) (Below.refl _ _),rfl⟩
     intro ρ rc rf rg re
     rw [re] at s21 s23
     simp [execOp,go_sem,rc,rf,rg,s21,s23] <;> first | omega | rfl | decide
    ·-- 11: slot 25:=Op.fieldAddr 58 t5 2
     intro ra w' hx hg hs
     have s5:ra.eval (.tmp 5) = .pointer (some ⟨b5,0,none⟩):=hs.1
     clear hs
     have c0:=blk_cell (hg 23 rfl).1 0
     have c1:=blk_cell (hg 23 rfl).1 1
     have c2:=blk_cell (hg 23 rfl).1 2
     have c3:=blk_cell (hg 23 rfl).1 3
     simp only [List.getElem?_toArray,List.getElem?_cons_zero,List.getElem?_cons_succ] at c0 c1 c2 c3
     change Oper.wp _ _ ra w' _ _
     refine reg.wp_value (v:=.pointer (some ⟨b5,2,none⟩)) (w':=w') ?_ ⟨_,rfl,LX.mk (by decide) (Below.refl _ _),rfl⟩
     intro ρ rc rf rg re
     rw [re] at s5
     simp [execOp,go_sem,rc,rf,rg,s5] <;> first | omega | rfl | decide
    ·-- 12: slot 26:=Op.load 3 t25
     intro ra w' hx hg hs
     have s25:ra.eval (.tmp 25) = .pointer (some ⟨b5,2,none⟩):=hs.1
     clear hs
     have c0:=blk_cell (hg 23 rfl).1 0
     have c1:=blk_cell (hg 23 rfl).1 1
     have c2:=blk_cell (hg 23 rfl).1 2
     have c3:=blk_cell (hg 23 rfl).1 3
     simp only [List.getElem?_toArray,List.getElem?_cons_zero,List.getElem?_cons_succ] at c0 c1 c2 c3
     change Oper.wp _ _ ra w' _ _
     refine reg.wp_value (v:=.int .i64 m) (w':=w') ?_ ⟨_,rfl,LX.mk (by decide) (Below.refl _ _),rfl⟩
     intro ρ rc rf rg re
     rw [re] at s25
     simp [execOp,go_sem,rc,rf,rg,s25,c2] <;> first | omega | rfl | decide
    ·-- 13: slot 27:=Op.call { value (Operand.func 29),args := #[t26,const (2:i64)],argTypes := #[3,3] }
     intro ra w' hx hg hs
     have s26:ra.eval (.tmp 26) = .int .i64 m:=hs.1
     clear hs
     have c0:=blk_cell (hg 23 rfl).1 0
     have c1:=blk_cell (hg 23 rfl).1 1
     have c2:=blk_cell (hg 23 rfl).1 2
     have c3:=blk_cell (hg 23 rfl).1 3
     simp only [List.getElem?_toArray,List.getElem?_cons_zero,List.getElem?_cons_succ] at c0 c1 c2 c3
     change Oper.wp _ _ ra w' _ _
     refine reg.wp_call (f:=29) (args := #[.int .i64 m,.int .i64 2]) (w':=w') ?_ ?_
     ·intro ρ rc rf rg re
      rw [re] at s26
      simp [execOp,go_sem,rc,rf,rg,s26] <;> first | omega | rfl | decide
     refine (HT2.out _).mono ?_
     rintro e w2 ⟨rfl,hb⟩
     exact ⟨_,rfl,_,rfl,LX.mk (by decide) hb,rfl⟩
    ·-- 14: slot 28:=Op.binOp BinOp.add 9 t24 t27 9
     intro ra w' hx hg hs
     have s24:ra.eval (.tmp 24) = .string ((A0 ++ A1) ++ A2):=hs.1
     have s27:ra.eval (.tmp 27) = .string A3:=hs.2.1
     clear hs
     have c0:=blk_cell (hg 23 rfl).1 0
     have c1:=blk_cell (hg 23 rfl).1 1
     have c2:=blk_cell (hg 23 rfl).1 2
     have c3:=blk_cell (hg 23 rfl).1 3
     simp only [List.getElem?_toArray,List.getElem?_cons_zero,List.getElem?_cons_succ] at c0 c1 c2 c3
     change Oper.wp _ _ ra w' _ _
     refine reg.wp_value (v:=.string (((A0 ++ A1) ++ A2) ++ A3)) (w':=w') ?_ ⟨_,rfl,LX.mk (by decide) (Below.refl _ _),rfl⟩
     intro ρ rc rf rg re
     rw [re] at s24 s27
     simp [execOp,go_sem,rc,rf,rg,s24,s27] <;> first | omega | rfl | decide
    ·-- 15: slot 29:=Op.fieldAddr 58 t5 3
     intro ra w' hx hg hs
     have s5:ra.eval (.tmp 5) = .pointer (some ⟨b5,0,none⟩):=hs.1
     clear hs
     have c0:=blk_cell (hg 23 rfl).1 0
     have c1:=blk_cell (hg 23 rfl).1 1
     have c2:=blk_cell (hg 23 rfl).1 2
     have c3:=blk_cell (hg 23 rfl).1 3
     simp only [List.getElem?_toArray,List.getElem?_cons_zero,List.getElem?_cons_succ] at c0 c1 c2 c3
     change Oper.wp _ _ ra w' _ _
     refine reg.wp_value (v:=.pointer (some ⟨b5,3,none⟩)) (w':=w') ?_ ⟨_,rfl,LX.mk (by decide) (Below.refl _ _),rfl⟩
     intro ρ rc rf rg re
     rw [re] at s5
     simp [execOp,go_sem,rc,rf,rg,s5] <;> first | omega | rfl | decide
    ·-- 16: slot 30:=Op.load 9 t29
     intro ra w' hx hg hs
     have s29:ra.eval (.tmp 29) = .pointer (some ⟨b5,3,none⟩):=hs.1
     clear hs
     have c0:=blk_cell (hg 23 rfl).1 0
     have c1:=blk_cell (hg 23 rfl).1 1
     have c2:=blk_cell (hg 23 rfl).1 2
     have c3:=blk_cell (hg 23 rfl).1 3
     simp only [List.getElem?_toArray,List.getElem?_cons_zero,List.getElem?_cons_succ] at c0 c1 c2 c3
     change Oper.wp _ _ ra w' _ _
     refine reg.wp_value (v:=.string A5) (w':=w') ?_ ⟨_,rfl,LX.mk (by decide) (Below.refl _ _),rfl⟩
     intro ρ rc rf rg re
     rw [re] at s29
     simp [execOp,go_sem,rc,rf,rg,s29,c3] <;> first | omega | rfl | decide
    ·-- 17: slot 31:=Op.call { builtin len,args := #[t30],argTypes := #[9] }
     intro ra w' hx hg hs
     have s30:ra.eval (.tmp 30) = .string A5:=hs.1
     clear hs
     have c0:=blk_cell (hg 23 rfl).1 0
     have c1:=blk_cell (hg 23 rfl).1 1
     have c2:=blk_cell (hg 23 rfl).1 2
     have c3:=blk_cell (hg 23 rfl).1 3
     simp only [List.getElem?_toArray,List.getElem?_cons_zero,List.getElem?_cons_succ] at c0 c1 c2 c3
     change Oper.wp _ _ ra w' _ _
     refine reg.wp_value (v:=.int .i64 x.data.length) (w':=w') ?_ ⟨_,rfl,LX.mk (by decide) (Below.refl _ _),rfl⟩
     intro ρ rc rf rg re
     rw [re] at s30
     simp [execOp,go_sem,rc,rf,rg,s30,zd] <;> first | omega | rfl | decide
    ·-- 18: slot 32:=Op.call { value (Operand.func 29),args := #[t31,const (2:i64)],argTypes := #[3,3] }
     intro ra w' hx hg hs
     have s31:ra.eval (.tmp 31) = .int .i64 x.data.length:=hs.1
     clear hs
     have c0:=blk_cell (hg 23 rfl).1 0
     have c1:=blk_cell (hg 23 rfl).1 1
     have c2:=blk_cell (hg 23 rfl).1 2
     have c3:=blk_cell (hg 23 rfl).1 3
     simp only [List.getElem?_toArray,List.getElem?_cons_zero,List.getElem?_cons_succ] at c0 c1 c2 c3
     change Oper.wp _ _ ra w' _ _
     refine reg.wp_call (f:=29) (args := #[.int .i64 x.data.length,.int .i64 2]) (w':=w') ?_ ?_
     ·intro ρ rc rf rg re
      rw [re] at s31
      simp [execOp,go_sem,rc,rf,rg,s31] <;> first | omega | rfl | decide
     refine (HT3.out _).mono ?_
     rintro e w2 ⟨rfl,hb⟩
     exact ⟨_,rfl,_,rfl,LX.mk (by decide) hb,rfl⟩
    ·-- 19: slot 33:=Op.binOp BinOp.add 9 t28 t32 9
     intro ra w' hx hg hs
     have s28:ra.eval (.tmp 28) = .string (((A0 ++ A1) ++ A2) ++ A3):=hs.1
     have s32:ra.eval (.tmp 32) = .string A4:=hs.2.1
     clear hs
     have c0:=blk_cell (hg 23 rfl).1 0
     have c1:=blk_cell (hg 23 rfl).1 1
     have c2:=blk_cell (hg 23 rfl).1 2
     have c3:=blk_cell (hg 23 rfl).1 3
     simp only [List.getElem?_toArray,List.getElem?_cons_zero,List.getElem?_cons_succ] at c0 c1 c2 c3
     change Oper.wp _ _ ra w' _ _
     refine reg.wp_value (v:=.string ((((A0 ++ A1) ++ A2) ++ A3) ++ A4)) (w':=w') ?_ ⟨_,rfl,LX.mk (by decide) (Below.refl _ _),rfl⟩
     intro ρ rc rf rg re
     rw [re] at s28 s32
     simp [execOp,go_sem,rc,rf,rg,s28,s32] <;> first | omega | rfl | decide
    ·-- 20: slot 34:=Op.fieldAddr 58 t5 3
     intro ra w' hx hg hs
     have s5:ra.eval (.tmp 5) = .pointer (some ⟨b5,0,none⟩):=hs.1
     clear hs
     have c0:=blk_cell (hg 23 rfl).1 0
     have c1:=blk_cell (hg 23 rfl).1 1
     have c2:=blk_cell (hg 23 rfl).1 2
     have c3:=blk_cell (hg 23 rfl).1 3
     simp only [List.getElem?_toArray,List.getElem?_cons_zero,List.getElem?_cons_succ] at c0 c1 c2 c3
     change Oper.wp _ _ ra w' _ _
     refine reg.wp_value (v:=.pointer (some ⟨b5,3,none⟩)) (w':=w') ?_ ⟨_,rfl,LX.mk (by decide) (Below.refl _ _),rfl⟩
     intro ρ rc rf rg re
     rw [re] at s5
     simp [execOp,go_sem,rc,rf,rg,s5] <;> first | omega | rfl | decide
    ·-- 21: slot 35:=Op.load 9 t34
     intro ra w' hx hg hs
     have s34:ra.eval (.tmp 34) = .pointer (some ⟨b5,3,none⟩):=hs.1
     clear hs
     have c0:=blk_cell (hg 23 rfl).1 0
     have c1:=blk_cell (hg 23 rfl).1 1
     have c2:=blk_cell (hg 23 rfl).1 2
     have c3:=blk_cell (hg 23 rfl).1 3
     simp only [List.getElem?_toArray,List.getElem?_cons_zero,List.getElem?_cons_succ] at c0 c1 c2 c3
     change Oper.wp _ _ ra w' _ _
     refine reg.wp_value (v:=.string A5) (w':=w') ?_ ⟨_,rfl,LX.mk (by decide) (Below.refl _ _),rfl⟩
     intro ρ rc rf rg re
     rw [re] at s34
     simp [execOp,go_sem,rc,rf,rg,s34,c3] <;> first | omega | rfl | decide
    ·-- 22: slot 36:=Op.binOp BinOp.add 9 t33 t35 9
     intro ra w' hx hg hs
     have s33:ra.eval (.tmp 33) = .string ((((A0 ++ A1) ++ A2) ++ A3) ++ A4):=hs.1
     have s35:ra.eval (.tmp 35) = .string A5:=hs.2.1
     clear hs
     have c0:=blk_cell (hg 23 rfl).1 0
     have c1:=blk_cell (hg 23 rfl).1 1
     have c2:=blk_cell (hg 23 rfl).1 2
     have c3:=blk_cell (hg 23 rfl).1 3
     simp only [List.getElem?_toArray,List.getElem?_cons_zero,List.getElem?_cons_succ] at c0 c1 c2 c3
     change Oper.wp _ _ ra w' _ _
     refine reg.wp_value (v:=.string AE) (w':=w') ?_ ⟨_,rfl,LX.mk (by decide) (Below.refl _ _),rfl⟩
     rw [← HES.out]
     intro ρ rc rf rg re
     rw [re] at s33 s35
     simp [execOp,go_sem,rc,rf,rg,s33,s35] <;> first | omega | rfl | decide
    ·-- 23: slot 37:=Op.call { value (Operand.func 70),args := #[t3,t36],argTypes := #[127,9] }
     intro ra w' hx hg hs
     have s3:ra.eval (.tmp 3) = .pointer (some ⟨w.heap.size + 1,0,none⟩):=hs.1
     have s36:ra.eval (.tmp 36) = .string AE:=hs.2.1
     clear hs
     have c0:=blk_cell (hg 23 rfl).1 0
     have c1:=blk_cell (hg 23 rfl).1 1
     have c2:=blk_cell (hg 23 rfl).1 2
     have c3:=blk_cell (hg 23 rfl).1 3
     simp only [List.getElem?_toArray,List.getElem?_cons_zero,List.getElem?_cons_succ] at c0 c1 c2 c3
     change Oper.wp _ _ ra w' _ _
     refine reg.wp_call (f:=70) (args := #[.pointer (some ⟨w.heap.size + 1,0,none⟩),.string AE]) (w':=w') ?_ ?_
     ·intro ρ rc rf rg re
      rw [re] at s3 s36
      simp [execOp,go_sem,rc,rf,rg,s3,s36] <;> first | omega | rfl | decide
     refine (HWX.out _ (hg 23 rfl).2).mono ?_
     rintro e w2 ⟨rfl,hi,hb⟩
     exact ⟨_,rfl,_,rfl,.inl ⟨rfl,hb⟩,hi⟩
   intro rV w2 hx hf
   have ve0:rV 0 = .pointer (some ⟨b5,1,none⟩):=hf 0 (by decide)
   have ve1:rV 1 = .int .i64 k:=hf 1 (by decide)
   have ve2:rV 2 = .string A0:=hf 2 (by decide)
   have ve3:rV 3 = .pointer (some ⟨b5,0,none⟩):=hf 3 (by decide)
   have ve4:rV 4 = .string A2:=hf 4 (by decide)
   have ve5:rV 5 = .int .i64 x.path.length:=hf 5 (by decide)
   have ve6:rV 6 = .string A1:=hf 6 (by decide)
   have ve7:rV 7 = .string (A0 ++ A1):=hf 7 (by decide)
   have ve8:rV 8 = .pointer (some ⟨b5,0,none⟩):=hf 8 (by decide)
   have ve9:rV 9 = .string A2:=hf 9 (by decide)
   have ve10:rV 10 = .string ((A0 ++ A1) ++ A2):=hf 10 (by decide)
   have ve11:rV 11 = .pointer (some ⟨b5,2,none⟩):=hf 11 (by decide)
   have ve12:rV 12 = .int .i64 m:=hf 12 (by decide)
   have ve13:rV 13 = .string A3:=hf 13 (by decide)
   have ve14:rV 14 = .string (((A0 ++ A1) ++ A2) ++ A3):=hf 14 (by decide)
   have ve15:rV 15 = .pointer (some ⟨b5,3,none⟩):=hf 15 (by decide)
   have ve16:rV 16 = .string A5:=hf 16 (by decide)
   have ve17:rV 17 = .int .i64 x.data.length:=hf 17 (by decide)
   have ve18:rV 18 = .string A4:=hf 18 (by decide)
   have ve19:rV 19 = .string ((((A0 ++ A1) ++ A2) ++ A3) ++ A4):=hf 19 (by decide)
   have ve20:rV 20 = .pointer (some ⟨b5,3,none⟩):=hf 20 (by decide)
   have ve21:rV 21 = .string A5:=hf 21 (by decide)
   have ve22:rV 22 = .string AE:=hf 22 (by decide)
   have ve23:=hf 23 (by decide)
   clear hf
   simp only [List.zipIdx_cons,List.zipIdx_nil,List.foldl_cons,List.foldl_nil,Act.put,Nat.reduceAdd,List.setIfInBounds_toArray,List.set_cons_succ,List.set_cons_zero,ve0,ve1,ve2,ve3,ve4,ve5,ve6,ve7,ve8,ve9,ve10,ve11,ve12,ve13,ve14,ve15,ve16,ve17,ve18,ve19,ve20,ve21,ve22]
   clear ve0 ve1 ve2 ve3 ve4 ve5 ve6 ve7 ve8 ve9 ve10 ve11 ve12 ve13 ve14 ve15 ve16 ve17 ve18 ve19 ve20 ve21 ve22
   generalize rV 23 = v23 at *
   clear rV
   have HIS3:=Lib.hid ve23
   have HB3:Hid (Below w.heap.size w w2):=HBw2.out.trans (hx.mono (by omega))
   clear hx ve23
   go_wp2_with fail
   go_roundg gk
   case rel=>exact ⟨i + 1,by omega,by go_num,HIS3.out,HB3⟩
   case measure=>omega
  ·have hi2:i = es.length:=by omega
   subst hi2
   have HWB:=Lib.hid (wb_any (w.heap.size + 1) ([79,82,76] ++ bodyS (es.take es.length)) 0 wr HIS.out (by rw [List.length_append];simp at hbl ⊢;omega))
   have HST:Hid (([79,82,76] ++ bodyS (es.take es.length)) ++ [0] = streamL es):=by unfold Hid;rw [List.take_length];rfl
   rw [HST.out] at HWB
   go_wp2_with fail
   refine HWB.out.mono ?_;rintro r w3 ⟨rfl,hi,hb⟩
   have HI3:=Lib.hid hi
   have HB3:Hid (Below w.heap.size w w3):=HBw.out.trans (hb.mono (by omega))
   have HSTR:=Lib.hid (Tryz.Builder_String_any (w.heap.size + 1) (w.heap.size + 1) (streamL es) w3 hi (Nat.le_of_lt hi.lt))
   clear hi hb HWB
   go_wp2_with fail
   refine HSTR.out.mono ?_;rintro r w4 ⟨rfl,hb⟩
   have HB4:Hid (Below w.heap.size w w4):=HB3.out.trans (hb.mono (by omega))
   clear hb HSTR
   go_wp2_with fail
   go_ret
   exact ⟨rfl,HB4.out⟩
end Go.Proofs.YtifhnpkapgaboaaGreat.arch
