/-
  Proved: leans tells that a tree leans. Conditions: as each theorem says.
-/
import Derived.Test.YtmfpmandkhiknaaGreatDoorPu36
import Derived.Test.YtmfpmandkhiknaaGreatDoorPu33
import Derived.Test.YtmfpmandkhiknaaGreatDoorPu37
import Derived.BigQuiet
set_option linter.unusedVariables false
set_option linter.unusedSimpArgs false
namespace Go.Proofs.YtmfpmandkhiknaaGreatDoor.qar
open par
open Go.RowKit
open heap maps
open lex (Tk TRow TkAt run_store_float add0)
set_option maxRecDepth 100000
attribute [local go_sem] run_store_float
def OV (w:World) (v:Value) (os:List Nat):Prop:=∃ a cp,v = .slice a os.length cp ∧ os.length ≤ cp ∧ cp ≤ maxLen ∧ ∀ j o,os[j]? = some o → ∃ g off,a = some ⟨g,off,none⟩ ∧ w.cell? ⟨g,off + j,none⟩ = some (.string ⟨#[sg o]⟩)
theorem OV.below {w w':World} {v:Value} {os:List Nat} (h:OV w v os) (hb:Below w.heap.size w w'):OV w' v os:=by
 obtain ⟨a,cp,hv,h1,h2,h3⟩:=h
 refine ⟨a,cp,hv,h1,h2,fun j o hj => ?_⟩
 obtain ⟨g,off,ha,hc⟩:=h3 j o hj
 exact ⟨g,off,ha,by rw [hb.cell (p:=⟨g,off + j,none⟩) (World.block_lt_of_cell? w _ hc)];exact hc⟩
theorem OV.at {w:World} {os:List Nat} {a:Option Addr} {n cp i o:Nat} (h:OV w (.slice a n cp) os) (hi:os[i]? = some o):n = os.length ∧ n ≤ cp ∧ cp ≤ maxLen ∧ ∃ g off,a = some ⟨g,off,none⟩ ∧ g < w.heap.size ∧ ∀ j q,os[j]? = some q → w.cell? ⟨g,off + j,none⟩ = some (.string ⟨#[sg q]⟩):=by
 obtain ⟨a',cp',hv,h1,h2,h3⟩:=h
 cases hv
 obtain ⟨g,off,ha,hc⟩:=h3 i o hi
 refine ⟨rfl,h1,h2,g,off,ha,World.block_lt_of_cell? w _ hc,fun j q hj => ?_⟩
 obtain ⟨g2,off2,ha2,hc2⟩:=h3 j q hj
 rw [ha] at ha2
 cases ha2
 exact hc2
theorem OV.take {w:World} {os:List Nat} {g off n cp m:Nat} (h:OV w (.slice (some ⟨g,off,none⟩) n cp) os) (hm:m ≤ os.length):OV w (.slice (some ⟨g,off,none⟩) m cp) (os.take m):=by
 obtain ⟨a',cp',hv,h1,h2,h3⟩:=h
 cases hv
 refine ⟨_,cp,by rw [List.length_take,Nat.min_eq_left hm],by rw [List.length_take,Nat.min_eq_left hm];omega,h2,fun j o hj=>h3 j o ?_⟩
 rw [List.getElem?_take] at hj
 split at hj
 ·exact hj
 ·cases hj
theorem OV.drop {w:World} {os:List Nat} {g off n cp m:Nat} (h:OV w (.slice (some ⟨g,off,none⟩) n cp) os) (hm:m ≤ os.length):OV w (.slice (some ⟨g,off + m,none⟩) (n - m) (cp - m)) (os.drop m):=by
 obtain ⟨a',cp',hv,h1,h2,h3⟩:=h
 cases hv
 refine ⟨_,cp - m,by rw [List.length_drop],by rw [List.length_drop];omega,by unfold maxLen at *;omega,fun j o hj => ?_⟩
 obtain ⟨g2,off2,ha,hc⟩:=h3 (m + j) o (by rw [List.getElem?_drop] at hj;exact hj)
 cases ha
 exact ⟨g,off + m,rfl,by rw [Nat.add_assoc];exact hc⟩
def lvM:List (Nm × Value) := [([38],.int .i64 1),([43],.int .i64 2),([45],.int .i64 2),([42],.int .i64 3),([47],.int .i64 3),([37],.int .i64 3)]
theorem lv_look:∀ o:Nat,(maps.look [sg o] lvM 0).map (·.2) = some (.int .i64 (lv o))
 | 0=>rfl
 | 1=>rfl
 | 2=>rfl
 | 3=>rfl
 | 4=>rfl
 | n + 5=>rfl
theorem run_lv {w:World} {b:Nat} (h:MapS w b lvM) (o:Nat):(Instr.lookup 70 (.map (some b)) (.string ⟨#[sg o]⟩) false).run Tryz.prog w = .ok (.int .i64 (lv o)) w:=by
 have:=run_lookup (P:=Tryz.prog) h Tryz.underlying70 Tryz.underlying9 (.int .i64 0) (by kernel_rfl) [sg o]
 rw [lv_look] at this
 exact this
theorem dec_is:((List.range 100).all fun n=>(num.decS n).data.toList == decL n) = true:=by decide +kernel
theorem dec_any (n:Nat) (hn:n < 100) (w:World):Calls Tryz.prog 23 #[.int .i64 n] w fun e w'=>e = .returned (.string ⟨(decL n).toArray⟩) ∧ Below w.heap.size w w':=by
 have h:=eq_of_beq (List.all_eq_true.1 dec_is n (List.mem_range.2 hn))
 have e:(⟨(decL n).toArray⟩:ByteArray) = num.decS n:=by
  apply ByteArray.ext
  rw [← h]
 rw [e]
 exact num.Decimal_nat n (by omega) w
structure LJ (w:World) (x:Nd) (v:Value) (wr:World):Prop where
 box:wr.heap[w.heap.size]? = some (ndO x v)
 bel:Below w.heap.size w wr
theorem LJ.below {w wr w':World} {x:Nd} {v:Value} (h:LJ w x v wr) (hb:Below wr.heap.size wr w'):LJ w x v w':=⟨blk_below h.box hb,h.bel.trans (hb.mono h.bel.size)⟩
theorem ext_below {w w':World} (h:reg.Ext w.drew w'):Below w.heap.size w w':=Below.trans (Below.drew (Below.refl _ _)) h
def LnAt (os:List Nat) (n:Nat) (x:Nd):Prop:=∀ (d:Nat) (v ops:Value) (S:List Nat) (b:Nat) (w:World),KV 61 w d x.kids v S → OV w ops os → MapS w b lvM →
 Calls Tryz.prog 30 #[ndV x v,ops,.int .i64 n,.map (some b)] w fun e w'=>e = .returned (.bool true) ∧ Below w.heap.size w w'
set_option maxHeartbeats 4000000 in
theorem leans_leaf (n:Nat) (a:Int) (hn:n < 100):LnAt [] n (.mk 14 (118 :: decL n) 0 [] a):=by
 intro d v ops S b w hk ho hm
 obtain ⟨av,cv,rfl⟩:=hk.slice
 obtain ⟨ao,co,rfl,-,-,-⟩:=ho
 have HD:=Lib.hid (fun W=>dec_any n hn W)
 have happ:(⟨#[118]⟩:ByteArray) ++ ⟨(decL n).toArray⟩ = ⟨(118 :: decL n).toArray⟩:=bapp [118] (decL n)
 have hdl:=decL_len n hn
 generalize decL n = dl at *
 clear hk hm
 go_enter Tryz.func30,Tryz.ntmps30
 go_upto_region 1 with fail
 have HJ:Hid (LJ w (.mk 14 (118 :: dl) 0 [] a) (.slice av 0 cv) (w.alloc (ndO (.mk 14 (118 :: dl) 0 [] a) (.slice av 0 cv)))):=⟨blk_new _ _,(Below.refl _ _).alloc (Nat.le_refl _) _⟩
 change Code.wp _ _ _ _ (w.alloc (ndO (.mk 14 (118 :: dl) 0 [] a) (.slice av 0 cv)))
 generalize w.alloc (ndO (.mk 14 (118 :: dl) 0 [] a) (.slice av 0 cv)) = wr at *
 have y0:=blk_cell (HJ.out.box) 0
 have y1:=blk_cell (HJ.out.box) 1
 have y2:=blk_cell (HJ.out.box) 2
 have y3:=blk_cell (HJ.out.box) 3
 have y4:=blk_cell (HJ.out.box) 4
 have yf0:=blk_free (HJ.out.box) 0
 have yf1:=blk_free (HJ.out.box) 1
 have yf2:=blk_free (HJ.out.box) 2
 have yf3:=blk_free (HJ.out.box) 3
 have yf4:=blk_free (HJ.out.box) 4
 have yl:=blk_lt (HJ.out.box)
 simp only [List.getElem?_toArray,List.getElem?_cons_zero,List.getElem?_cons_succ] at y0 y1 y2 y3 y4
 go_upto_region 2 with fail
 refine reg.region_each (by kernel_rfl) reg.Ext (fun ri v w'=>match ri with
   | 0=>v = .pointer (some ⟨w.heap.size,0,none⟩)
   | 1=>v = .int .i64 14
   | 2=>v = .bool true
   | 3=>v = .bool true
   | 4=>v = .pointer (some ⟨w.heap.size,1,none⟩)
   | 5=>v = .string ⟨(118 :: dl).toArray⟩
   | 6=>v = .int .i64 n
   | 7=>v = .string ⟨dl.toArray⟩
   | 8=>v = .string ⟨(118 :: dl).toArray⟩
   | 9=>v = .bool true
   | 10=>v = .bool true
   | 11=>v = .bool true
   | _=>True) reg.Ext.refl reg.Ext.trans ?_ (by kernel_rfl) ?_ ?_
 ·
  intro i v w1 w2 h hx
  rcases i with _|_|_|_|_|_|_|_|_|_|_|_|i
  ·exact h
  ·exact h
  ·exact h
  ·exact h
  ·exact h
  ·exact h
  ·exact h
  ·exact h
  ·exact h
  ·exact h
  ·exact h
  ·exact h
  ·trivial
 ·
  refine ⟨?_,?_,?_,?_,?_,?_,?_,?_,?_,?_,?_,?_,trivial⟩
  ·-- 0: slot 14:=Op.fieldAddr 61 t4 0
   intro ra w' hx hs
   have s4:ra.eval (.tmp 4) = .pointer (some ⟨w.heap.size,0,none⟩):=hs.1
   clear hs
   have y0:=hx.cell y0
   have y1:=hx.cell y1
   change Oper.wp _ _ ra w' _ _
   refine reg.wp_value (v:=.pointer (some ⟨w.heap.size,0,none⟩)) (w':=w') ?_ ⟨_,rfl,reg.Ext.refl _,rfl⟩
   intro ρ rc rf rg re
   rw [re] at s4
   simp [execOp,go_sem,rc,rf,rg,s4] <;> first | omega | rfl | decide
  ·-- 1: slot 15:=Op.load 3 t14
   intro ra w' hx hs
   have s14:ra.eval (.tmp 14) = .pointer (some ⟨w.heap.size,0,none⟩):=hs.1
   clear hs
   have y0:=hx.cell y0
   have y1:=hx.cell y1
   change Oper.wp _ _ ra w' _ _
   refine reg.wp_value (v:=.int .i64 14) (w':=w') ?_ ⟨_,rfl,reg.Ext.refl _,rfl⟩
   intro ρ rc rf rg re
   rw [re] at s14
   simp [execOp,go_sem,rc,rf,rg,s14,y0] <;> first | omega | rfl | decide
  ·-- 2: slot 16:=Op.binOp BinOp.eql 3 t15 (const (14:i64)) 3
   intro ra w' hx hs
   have s15:ra.eval (.tmp 15) = .int .i64 14:=hs.1
   clear hs
   have y0:=hx.cell y0
   have y1:=hx.cell y1
   change Oper.wp _ _ ra w' _ _
   refine reg.wp_value (v:=.bool true) (w':=w') ?_ ⟨_,rfl,reg.Ext.refl _,rfl⟩
   intro ρ rc rf rg re
   rw [re] at s15
   simp [execOp,go_sem,rc,rf,rg,s15] <;> first | omega | rfl | decide
  ·-- 3: slot 17:=Op.move t16
   intro ra w' hx hs
   have s16:ra.eval (.tmp 16) = .bool true:=hs.1
   clear hs
   have y0:=hx.cell y0
   have y1:=hx.cell y1
   change Oper.wp _ _ ra w' _ _
   refine reg.wp_value (v:=.bool true) (w':=w') ?_ ⟨_,rfl,reg.Ext.refl _,rfl⟩
   intro ρ rc rf rg re
   rw [re] at s16
   simp [execOp,go_sem,rc,rf,rg,s16] <;> first | omega | rfl | decide
  ·-- 4: slot 18:=Op.fieldAddr 61 t4 1
   intro ra w' hx hs
   have s4:ra.eval (.tmp 4) = .pointer (some ⟨w.heap.size,0,none⟩):=hs.1
   have s17:ra.eval (.tmp 17) = .bool true:=hs.2.1
   clear hs
   have y0:=hx.cell y0
   have y1:=hx.cell y1
   refine reg.want_yes rfl rfl rfl s17 rfl ?_
   change Oper.wp _ _ ra w' _ _
   refine reg.wp_value (v:=.pointer (some ⟨w.heap.size,1,none⟩)) (w':=w') ?_ ⟨_,rfl,reg.Ext.refl _,rfl⟩
   intro ρ rc rf rg re
   rw [re] at s4 s17
   simp [execOp,go_sem,rc,rf,rg,s4,s17] <;> first | omega | rfl | decide
  ·-- 5: slot 19:=Op.load 9 t18
   intro ra w' hx hs
   have s18:ra.eval (.tmp 18) = .pointer (some ⟨w.heap.size,1,none⟩):=hs.1
   have s17:ra.eval (.tmp 17) = .bool true:=hs.2.1
   clear hs
   have y0:=hx.cell y0
   have y1:=hx.cell y1
   refine reg.want_yes rfl rfl rfl s17 rfl ?_
   change Oper.wp _ _ ra w' _ _
   refine reg.wp_value (v:=.string ⟨(118 :: dl).toArray⟩) (w':=w') ?_ ⟨_,rfl,reg.Ext.refl _,rfl⟩
   intro ρ rc rf rg re
   rw [re] at s18 s17
   simp [execOp,go_sem,rc,rf,rg,s18,s17,y1] <;> first | omega | rfl | decide
  ·-- 6: slot 20:=Op.move t2
   intro ra w' hx hs
   have s2:ra.eval (.tmp 2) = .int .i64 n:=hs.1
   have s17:ra.eval (.tmp 17) = .bool true:=hs.2.1
   clear hs
   have y0:=hx.cell y0
   have y1:=hx.cell y1
   refine reg.want_yes rfl rfl rfl s17 rfl ?_
   change Oper.wp _ _ ra w' _ _
   refine reg.wp_value (v:=.int .i64 n) (w':=w') ?_ ⟨_,rfl,reg.Ext.refl _,rfl⟩
   intro ρ rc rf rg re
   rw [re] at s2 s17
   simp [execOp,go_sem,rc,rf,rg,s2,s17] <;> first | omega | rfl | decide
  ·-- 7: slot 21:=Op.call { value (Operand.func 23),args := #[t20],argTypes := #[3] }
   intro ra w' hx hs
   have s20:ra.eval (.tmp 20) = .int .i64 n:=hs.1
   have s17:ra.eval (.tmp 17) = .bool true:=hs.2.1
   clear hs
   have y0:=hx.cell y0
   have y1:=hx.cell y1
   refine reg.want_yes rfl rfl rfl s17 rfl ?_
   change Oper.wp _ _ ra w' _ _
   refine reg.wp_call (f:=23) (args := #[.int .i64 n]) (w':=w') ?_ ((HD.out w').mono ?_)
   ·intro ρ rc rf rg re
    rw [re] at s20 s17
    simp [execOp,go_sem,rc,rf,rg,s20,s17] <;> first | omega | rfl | decide
   ·rintro e w2 ⟨rfl,hb⟩
    exact ⟨_,rfl,_,rfl,hb,rfl⟩
  ·-- 8: slot 22:=Op.binOp BinOp.add 9 (const (Value.string { data := #[118] })) t21 9
   intro ra w' hx hs
   have s21:ra.eval (.tmp 21) = .string ⟨dl.toArray⟩:=hs.1
   have s17:ra.eval (.tmp 17) = .bool true:=hs.2.1
   clear hs
   have y0:=hx.cell y0
   have y1:=hx.cell y1
   refine reg.want_yes rfl rfl rfl s17 rfl ?_
   change Oper.wp _ _ ra w' _ _
   refine reg.wp_value (v:=.string ⟨(118 :: dl).toArray⟩) (w':=w') ?_ ⟨_,rfl,reg.Ext.refl _,rfl⟩
   intro ρ rc rf rg re
   rw [re] at s21 s17
   simp [execOp,go_sem,rc,rf,rg,s21,s17,happ] <;> first | omega | rfl | decide
  ·-- 9: slot 23:=Op.binOp BinOp.eql 9 t19 t22 9
   intro ra w' hx hs
   have s19:ra.eval (.tmp 19) = .string ⟨(118 :: dl).toArray⟩:=hs.1
   have s22:ra.eval (.tmp 22) = .string ⟨(118 :: dl).toArray⟩:=hs.2.1
   have s17:ra.eval (.tmp 17) = .bool true:=hs.2.2.1
   clear hs
   have y0:=hx.cell y0
   have y1:=hx.cell y1
   refine reg.want_yes rfl rfl rfl s17 rfl ?_
   change Oper.wp _ _ ra w' _ _
   refine reg.wp_value (v:=.bool true) (w':=w') ?_ ⟨_,rfl,reg.Ext.refl _,rfl⟩
   intro ρ rc rf rg re
   rw [re] at s19 s22 s17
   simp [execOp,go_sem,rc,rf,rg,s19,s22,s17] <;> first | omega | rfl | decide
  ·-- 10: slot 24:=Op.pick t17 t23 (const (Value.bool false))
   intro ra w' hx hs
   have s17:ra.eval (.tmp 17) = .bool true:=hs.1
   have s23:ra.eval (.tmp 23) = .bool true:=hs.2.1
   clear hs
   have y0:=hx.cell y0
   have y1:=hx.cell y1
   change Oper.wp _ _ ra w' _ _
   refine reg.wp_value (v:=.bool true) (w':=w') ?_ ⟨_,rfl,reg.Ext.refl _,rfl⟩
   intro ρ rc rf rg re
   rw [re] at s17 s23
   simp [execOp,go_sem,rc,rf,rg,s17,s23] <;> first | omega | rfl | decide
  ·-- 11: slot 8:=Op.assign t24
   intro ra w' hx hs
   have s24:ra.eval (.tmp 24) = .bool true:=hs.1
   clear hs
   have y0:=hx.cell y0
   have y1:=hx.cell y1
   change Oper.wp _ _ ra w' _ _
   refine reg.wp_value (v:=.bool true) (w':=w') ?_ ⟨_,rfl,reg.Ext.refl _,rfl⟩
   intro ρ rc rf rg re
   rw [re] at s24
   simp [execOp,go_sem,rc,rf,rg,s24] <;> first | omega | rfl | decide
 intro rV w6 hx6 hf
 have ve0:rV 0 = .pointer (some ⟨w.heap.size,0,none⟩):=hf 0 (by decide)
 have ve1:rV 1 = .int .i64 14:=hf 1 (by decide)
 have ve2:rV 2 = .bool true:=hf 2 (by decide)
 have ve3:rV 3 = .bool true:=hf 3 (by decide)
 have ve4:rV 4 = .pointer (some ⟨w.heap.size,1,none⟩):=hf 4 (by decide)
 have ve5:rV 5 = .string ⟨(118 :: dl).toArray⟩:=hf 5 (by decide)
 have ve6:rV 6 = .int .i64 n:=hf 6 (by decide)
 have ve7:rV 7 = .string ⟨dl.toArray⟩:=hf 7 (by decide)
 have ve8:rV 8 = .string ⟨(118 :: dl).toArray⟩:=hf 8 (by decide)
 have ve9:rV 9 = .bool true:=hf 9 (by decide)
 have ve10:rV 10 = .bool true:=hf 10 (by decide)
 have ve11:rV 11 = .bool true:=hf 11 (by decide)
 clear hf
 simp only [List.zipIdx_cons,List.zipIdx_nil,List.foldl_cons,List.foldl_nil,Act.put,Nat.reduceAdd,List.setIfInBounds_toArray,List.set_cons_succ,List.set_cons_zero,ve0,ve1,ve2,ve3,ve4,ve5,ve6,ve7,ve8,ve9,ve10,ve11]
 clear ve0 ve1 ve2 ve3 ve4 ve5 ve6 ve7 ve8 ve9 ve10 ve11
 clear rV
 have HB6:=Lib.hid (HJ.out.bel.trans ((ext_below hx6).mono HJ.out.bel.size))
 clear hx6
 go_wp2_with fail
 go_ret
 exact ⟨rfl,HB6.out⟩
set_option maxHeartbeats 4000000 in
theorem leans_node (o1:List Nat) (p:Nat) (o2:List Nat) (n:Nat) (xl xr:Nd) (a:Int) (hn:n + (o1 ++ p :: o2).length < 100) (h1:∀ o ∈ o1,lv p ≤ lv o) (h2:∀ o ∈ o2,lv p < lv o) (HL:LnAt o1 n xl) (HR:LnAt o2 (n + o1.length + 1) xr) :
  LnAt (o1 ++ p :: o2) n (.mk 18 [sg p] 0 [xl,xr] a):=by
 intro d v ops S b w hk ho hm
 obtain ⟨os,hos⟩:∃ os,os = o1 ++ p :: o2:=⟨_,rfl⟩
 have hp:os[o1.length]? = some p:=by rw [hos];simp
 have hlen:os.length = o1.length + 1 + o2.length:=by rw [hos];simp;omega
 have ht1:os.take o1.length = o1:=by rw [hos];simp
 have ht2:os.drop (o1.length + 1) = o2:=by
  rw [hos,← List.drop_drop,List.drop_left' rfl]
  rfl
 have hlo:∀ i o,os[i]? = some o → (i < o1.length → lv p ≤ lv o) ∧ (o1.length < i → lv p < lv o):=by
  intro i o hi
  rw [hos] at hi
  refine ⟨fun hlt => ?_,fun hgt => ?_⟩
  ·rw [List.getElem?_append_left hlt] at hi
   exact h1 o (List.mem_of_getElem? hi)
  ·rw [List.getElem?_append_right (by omega)] at hi
   obtain ⟨k,hk⟩:∃ k,i - o1.length = k + 1:=⟨i - o1.length - 1,by omega⟩
   rw [hk,List.getElem?_cons_succ] at hi
   exact h2 o (List.mem_of_getElem? hi)
 rw [← hos] at hn ho
 obtain ⟨av,cv,rfl⟩:=hk.slice
 obtain ⟨ao,co,rfl,hc1,hc2,-⟩:=id ho
 have hO:=ho
 obtain ⟨-,-,-,g,off,rfl,-,-⟩:=ho.at hp
 obtain ⟨d,rfl⟩:∃ e,d = e + 1:=by
  cases d with
  | zero=>exact hk.elim
  | succ d=>exact ⟨d,rfl⟩
 have HK:=Lib.hid hk
 have HO:=Lib.hid hO
 have HM:=Lib.hid hm
 have HLO:=Lib.hid hlo
 have HX:=Lib.hid (And.intro HL HR)
 have HT:=Lib.hid (And.intro ht1 ht2)
 clear hk ho hO hm hlo HL HR h1 h2 ht1 ht2
 obtain ⟨m,hmm⟩:∃ m,o1.length = m:=⟨_,rfl⟩
 rw [hmm] at hp hlen HLO HX HT
 have HMM:=Lib.hid hmm
 clear hmm
 obtain ⟨N,hN⟩:∃ N,os.length = N:=⟨_,rfl⟩
 rw [hN] at hlen hn hc1 HO ⊢
 have hmN:m < N:=by omega
 clear hlen
 unfold maxLen at hc2
 go_enter Tryz.func30,Tryz.ntmps30
 go_upto_region 1 with fail
 have HJ:Hid (LJ w (.mk 18 [sg p] 0 [xl,xr] a) (.slice av 2 cv) (w.alloc (ndO (.mk 18 [sg p] 0 [xl,xr] a) (.slice av 2 cv)))):=⟨blk_new _ _,(Below.refl _ _).alloc (Nat.le_refl _) _⟩
 change Code.wp _ _ _ _ (w.alloc (ndO (.mk 18 [sg p] 0 [xl,xr] a) (.slice av 2 cv)))
 generalize w.alloc (ndO (.mk 18 [sg p] 0 [xl,xr] a) (.slice av 2 cv)) = w1 at *
 have hn0:((N:Int) == 0) = false:=beq_eq_false_iff_ne.2 (by omega)
 go_upto_region 4 with fail
 go_wp2_with fail
 go_loopg [9,10] N (fun kk v9 v10 wr=>∃ t i:Nat,v9 = .int .i64 t ∧ v10 = .int .i64 i ∧ i + kk = N + 1 ∧ 1 ≤ i ∧ t < i ∧ (m < i → t = m) ∧ Hid (LJ w (.mk 18 [sg p] 0 [xl,xr] a) (.slice av 2 cv) wr))
 case atStart=>exact ⟨0,1,rfl,rfl,by omega,by omega,by omega,by omega,HJ.out⟩
 case round =>
  clear HJ
  obtain ⟨t,i,rfl,rfl,hik,hi1,hti,htm,HJ⟩:=hrel
  by_cases hlt:i < N
  ·cases gk with
   | zero=>omega
   | succ gk =>
   obtain ⟨oi,hoi⟩:∃ o,os[i]? = some o:=⟨_,List.getElem?_eq_getElem (by omega)⟩
   obtain ⟨ot,hot⟩:∃ o,os[t]? = some o:=⟨_,List.getElem?_eq_getElem (by omega)⟩
   have HOr:=Lib.hid (HO.out.below HJ.out.bel)
   have HMr:=Lib.hid (HM.out.turned (S := []) (Turned.of_below HJ.out.bel) (by simp))
   obtain ⟨-,-,-,g2,off2,hg2,hgl,hcell⟩:=HOr.out.at hoi
   simp only [Option.some.injEq,Addr.mk.injEq,and_true] at hg2
   obtain ⟨rfl,rfl⟩:=hg2
   have x0:=hcell i oi hoi
   have x1:=hcell t ot hot
   have hI:(i:Int) < (N:Int):=by omega
   have hT:(t:Int) < (N:Int):=by omega
   obtain ⟨bb,hbb⟩:∃ bb,decide (lv oi ≤ lv ot) = bb:=⟨_,rfl⟩
   have HBB:=Lib.hid hbb
   have HLT:=Lib.hid (And.intro (HLO.out i oi hoi) (HLO.out t ot hot))
   have HEQ:Hid ((i = m → oi = p) ∧ (t = m → ot = p)):=⟨fun e=>by rw [e,hp] at hoi;exact (Option.some.inj hoi).symm,fun e=>by rw [e,hp] at hot;exact (Option.some.inj hot).symm⟩
   clear hcell hoi hot
   go_upto_region 7 with fail
   refine reg.region_each (by kernel_rfl) reg.Ext (fun ri v w'=>match ri with
     | 0=>v = .map (some b)
     | 1=>v = .slice (some ⟨g,off,none⟩) N co
     | 2=>v = .int .i64 i
     | 3=>v = .pointer (some ⟨g,off + i,none⟩)
     | 4=>v = .string ⟨#[sg oi]⟩
     | 5=>v = .int .i64 (lv oi)
     | 6=>v = .map (some b)
     | 7=>v = .slice (some ⟨g,off,none⟩) N co
     | 8=>v = .int .i64 t
     | 9=>v = .pointer (some ⟨g,off + t,none⟩)
     | 10=>v = .string ⟨#[sg ot]⟩
     | 11=>v = .int .i64 (lv ot)
     | 12=>v = .bool bb
     | _=>True) reg.Ext.refl reg.Ext.trans ?_ (by kernel_rfl) ?_ ?_
   ·
    intro i v w1 w2 h hx
    rcases i with _|_|_|_|_|_|_|_|_|_|_|_|_|i
    ·exact h
    ·exact h
    ·exact h
    ·exact h
    ·exact h
    ·exact h
    ·exact h
    ·exact h
    ·exact h
    ·exact h
    ·exact h
    ·exact h
    ·exact h
    ·trivial
   ·
    refine ⟨?_,?_,?_,?_,?_,?_,?_,?_,?_,?_,?_,?_,?_,trivial⟩
    ·-- 0: slot 31:=Op.move t3
     intro ra w' hx hs
     have s3:ra.eval (.tmp 3) = .map (some b):=hs.1
     clear hs
     have x0:=hx.cell x0
     have x1:=hx.cell x1
     have hm2:=HMr.out.turned (S := []) (Turned.of_below (ext_below hx)) (by simp)
     have l0:=run_lv hm2 oi
     have l1:=run_lv hm2 ot
     change Oper.wp _ _ ra w' _ _
     refine reg.wp_value (v:=.map (some b)) (w':=w') ?_ ⟨_,rfl,reg.Ext.refl _,rfl⟩
     intro ρ rc rf rg re
     rw [re] at s3
     simp [execOp,go_sem,rc,rf,rg,s3] <;> first | omega | rfl | decide
    ·-- 1: slot 32:=Op.move t1
     intro ra w' hx hs
     have s1:ra.eval (.tmp 1) = .slice (some ⟨g,off,none⟩) N co:=hs.1
     clear hs
     have x0:=hx.cell x0
     have x1:=hx.cell x1
     have hm2:=HMr.out.turned (S := []) (Turned.of_below (ext_below hx)) (by simp)
     have l0:=run_lv hm2 oi
     have l1:=run_lv hm2 ot
     change Oper.wp _ _ ra w' _ _
     refine reg.wp_value (v:=.slice (some ⟨g,off,none⟩) N co) (w':=w') ?_ ⟨_,rfl,reg.Ext.refl _,rfl⟩
     intro ρ rc rf rg re
     rw [re] at s1
     simp [execOp,go_sem,rc,rf,rg,s1] <;> first | omega | rfl | decide
    ·-- 2: slot 33:=Op.move t10
     intro ra w' hx hs
     have s10:ra.eval (.tmp 10) = .int .i64 i:=hs.1
     clear hs
     have x0:=hx.cell x0
     have x1:=hx.cell x1
     have hm2:=HMr.out.turned (S := []) (Turned.of_below (ext_below hx)) (by simp)
     have l0:=run_lv hm2 oi
     have l1:=run_lv hm2 ot
     change Oper.wp _ _ ra w' _ _
     refine reg.wp_value (v:=.int .i64 i) (w':=w') ?_ ⟨_,rfl,reg.Ext.refl _,rfl⟩
     intro ρ rc rf rg re
     rw [re] at s10
     simp [execOp,go_sem,rc,rf,rg,s10] <;> first | omega | rfl | decide
    ·-- 3: slot 34:=Op.indexAddr 39 t32 t33
     intro ra w' hx hs
     have s32:ra.eval (.tmp 32) = .slice (some ⟨g,off,none⟩) N co:=hs.1
     have s33:ra.eval (.tmp 33) = .int .i64 i:=hs.2.1
     clear hs
     have x0:=hx.cell x0
     have x1:=hx.cell x1
     have hm2:=HMr.out.turned (S := []) (Turned.of_below (ext_below hx)) (by simp)
     have l0:=run_lv hm2 oi
     have l1:=run_lv hm2 ot
     change Oper.wp _ _ ra w' _ _
     refine reg.wp_value (v:=.pointer (some ⟨g,off + i,none⟩)) (w':=w') ?_ ⟨_,rfl,reg.Ext.refl _,rfl⟩
     intro ρ rc rf rg re
     rw [re] at s32 s33
     simp [execOp,go_sem,rc,rf,rg,s32,s33,hI] <;> first | omega | rfl | decide
    ·-- 4: slot 35:=Op.load 9 t34
     intro ra w' hx hs
     have s34:ra.eval (.tmp 34) = .pointer (some ⟨g,off + i,none⟩):=hs.1
     clear hs
     have x0:=hx.cell x0
     have x1:=hx.cell x1
     have hm2:=HMr.out.turned (S := []) (Turned.of_below (ext_below hx)) (by simp)
     have l0:=run_lv hm2 oi
     have l1:=run_lv hm2 ot
     change Oper.wp _ _ ra w' _ _
     refine reg.wp_value (v:=.string ⟨#[sg oi]⟩) (w':=w') ?_ ⟨_,rfl,reg.Ext.refl _,rfl⟩
     intro ρ rc rf rg re
     rw [re] at s34
     simp [execOp,go_sem,rc,rf,rg,s34,x0] <;> first | omega | rfl | decide
    ·-- 5: slot 36:=Op.lookup 70 t31 t35 false
     intro ra w' hx hs
     have s31:ra.eval (.tmp 31) = .map (some b):=hs.1
     have s35:ra.eval (.tmp 35) = .string ⟨#[sg oi]⟩:=hs.2.1
     clear hs
     have x0:=hx.cell x0
     have x1:=hx.cell x1
     have hm2:=HMr.out.turned (S := []) (Turned.of_below (ext_below hx)) (by simp)
     have l0:=run_lv hm2 oi
     have l1:=run_lv hm2 ot
     change Oper.wp _ _ ra w' _ _
     refine reg.wp_value (v:=.int .i64 (lv oi)) (w':=w') ?_ ⟨_,rfl,reg.Ext.refl _,rfl⟩
     intro ρ rc rf rg re
     rw [re] at s31 s35
     simp [execOp,go_sem,rc,rf,rg,s31,s35,l0] <;> first | omega | rfl | decide
    ·-- 6: slot 37:=Op.move t3
     intro ra w' hx hs
     have s3:ra.eval (.tmp 3) = .map (some b):=hs.1
     clear hs
     have x0:=hx.cell x0
     have x1:=hx.cell x1
     have hm2:=HMr.out.turned (S := []) (Turned.of_below (ext_below hx)) (by simp)
     have l0:=run_lv hm2 oi
     have l1:=run_lv hm2 ot
     change Oper.wp _ _ ra w' _ _
     refine reg.wp_value (v:=.map (some b)) (w':=w') ?_ ⟨_,rfl,reg.Ext.refl _,rfl⟩
     intro ρ rc rf rg re
     rw [re] at s3
     simp [execOp,go_sem,rc,rf,rg,s3] <;> first | omega | rfl | decide
    ·-- 7: slot 38:=Op.move t1
     intro ra w' hx hs
     have s1:ra.eval (.tmp 1) = .slice (some ⟨g,off,none⟩) N co:=hs.1
     clear hs
     have x0:=hx.cell x0
     have x1:=hx.cell x1
     have hm2:=HMr.out.turned (S := []) (Turned.of_below (ext_below hx)) (by simp)
     have l0:=run_lv hm2 oi
     have l1:=run_lv hm2 ot
     change Oper.wp _ _ ra w' _ _
     refine reg.wp_value (v:=.slice (some ⟨g,off,none⟩) N co) (w':=w') ?_ ⟨_,rfl,reg.Ext.refl _,rfl⟩
     intro ρ rc rf rg re
     rw [re] at s1
     simp [execOp,go_sem,rc,rf,rg,s1] <;> first | omega | rfl | decide
    ·-- 8: slot 39:=Op.move t9
     intro ra w' hx hs
     have s9:ra.eval (.tmp 9) = .int .i64 t:=hs.1
     clear hs
     have x0:=hx.cell x0
     have x1:=hx.cell x1
     have hm2:=HMr.out.turned (S := []) (Turned.of_below (ext_below hx)) (by simp)
     have l0:=run_lv hm2 oi
     have l1:=run_lv hm2 ot
     change Oper.wp _ _ ra w' _ _
     refine reg.wp_value (v:=.int .i64 t) (w':=w') ?_ ⟨_,rfl,reg.Ext.refl _,rfl⟩
     intro ρ rc rf rg re
     rw [re] at s9
     simp [execOp,go_sem,rc,rf,rg,s9] <;> first | omega | rfl | decide
    ·-- 9: slot 40:=Op.indexAddr 39 t38 t39
     intro ra w' hx hs
     have s38:ra.eval (.tmp 38) = .slice (some ⟨g,off,none⟩) N co:=hs.1
     have s39:ra.eval (.tmp 39) = .int .i64 t:=hs.2.1
     clear hs
     have x0:=hx.cell x0
     have x1:=hx.cell x1
     have hm2:=HMr.out.turned (S := []) (Turned.of_below (ext_below hx)) (by simp)
     have l0:=run_lv hm2 oi
     have l1:=run_lv hm2 ot
     change Oper.wp _ _ ra w' _ _
     refine reg.wp_value (v:=.pointer (some ⟨g,off + t,none⟩)) (w':=w') ?_ ⟨_,rfl,reg.Ext.refl _,rfl⟩
     intro ρ rc rf rg re
     rw [re] at s38 s39
     simp [execOp,go_sem,rc,rf,rg,s38,s39,hT] <;> first | omega | rfl | decide
    ·-- 10: slot 41:=Op.load 9 t40
     intro ra w' hx hs
     have s40:ra.eval (.tmp 40) = .pointer (some ⟨g,off + t,none⟩):=hs.1
     clear hs
     have x0:=hx.cell x0
     have x1:=hx.cell x1
     have hm2:=HMr.out.turned (S := []) (Turned.of_below (ext_below hx)) (by simp)
     have l0:=run_lv hm2 oi
     have l1:=run_lv hm2 ot
     change Oper.wp _ _ ra w' _ _
     refine reg.wp_value (v:=.string ⟨#[sg ot]⟩) (w':=w') ?_ ⟨_,rfl,reg.Ext.refl _,rfl⟩
     intro ρ rc rf rg re
     rw [re] at s40
     simp [execOp,go_sem,rc,rf,rg,s40,x1] <;> first | omega | rfl | decide
    ·-- 11: slot 42:=Op.lookup 70 t37 t41 false
     intro ra w' hx hs
     have s37:ra.eval (.tmp 37) = .map (some b):=hs.1
     have s41:ra.eval (.tmp 41) = .string ⟨#[sg ot]⟩:=hs.2.1
     clear hs
     have x0:=hx.cell x0
     have x1:=hx.cell x1
     have hm2:=HMr.out.turned (S := []) (Turned.of_below (ext_below hx)) (by simp)
     have l0:=run_lv hm2 oi
     have l1:=run_lv hm2 ot
     change Oper.wp _ _ ra w' _ _
     refine reg.wp_value (v:=.int .i64 (lv ot)) (w':=w') ?_ ⟨_,rfl,reg.Ext.refl _,rfl⟩
     intro ρ rc rf rg re
     rw [re] at s37 s41
     simp [execOp,go_sem,rc,rf,rg,s37,s41,l1] <;> first | omega | rfl | decide
    ·-- 12: slot 43:=Op.binOp BinOp.leq 3 t36 t42 3
     intro ra w' hx hs
     have s36:ra.eval (.tmp 36) = .int .i64 (lv oi):=hs.1
     have s42:ra.eval (.tmp 42) = .int .i64 (lv ot):=hs.2.1
     clear hs
     have x0:=hx.cell x0
     have x1:=hx.cell x1
     have hm2:=HMr.out.turned (S := []) (Turned.of_below (ext_below hx)) (by simp)
     have l0:=run_lv hm2 oi
     have l1:=run_lv hm2 ot
     change Oper.wp _ _ ra w' _ _
     refine reg.wp_value (v:=.bool bb) (w':=w') ?_ ⟨_,rfl,reg.Ext.refl _,rfl⟩
     intro ρ rc rf rg re
     rw [re] at s36 s42
     simp [execOp,go_sem,rc,rf,rg,s36,s42,hbb] <;> first | omega | rfl | decide
   intro rV w6 hx6 hf
   have ve0:rV 0 = .map (some b):=hf 0 (by decide)
   have ve1:rV 1 = .slice (some ⟨g,off,none⟩) N co:=hf 1 (by decide)
   have ve2:rV 2 = .int .i64 i:=hf 2 (by decide)
   have ve3:rV 3 = .pointer (some ⟨g,off + i,none⟩):=hf 3 (by decide)
   have ve4:rV 4 = .string ⟨#[sg oi]⟩:=hf 4 (by decide)
   have ve5:rV 5 = .int .i64 (lv oi):=hf 5 (by decide)
   have ve6:rV 6 = .map (some b):=hf 6 (by decide)
   have ve7:rV 7 = .slice (some ⟨g,off,none⟩) N co:=hf 7 (by decide)
   have ve8:rV 8 = .int .i64 t:=hf 8 (by decide)
   have ve9:rV 9 = .pointer (some ⟨g,off + t,none⟩):=hf 9 (by decide)
   have ve10:rV 10 = .string ⟨#[sg ot]⟩:=hf 10 (by decide)
   have ve11:rV 11 = .int .i64 (lv ot):=hf 11 (by decide)
   have ve12:rV 12 = .bool bb:=hf 12 (by decide)
   clear hf
   simp only [List.zipIdx_cons,List.zipIdx_nil,List.foldl_cons,List.foldl_nil,Act.put,Nat.reduceAdd,List.setIfInBounds_toArray,List.set_cons_succ,List.set_cons_zero,ve0,ve1,ve2,ve3,ve4,ve5,ve6,ve7,ve8,ve9,ve10,ve11,ve12]
   clear ve0 ve1 ve2 ve3 ve4 ve5 ve6 ve7 ve8 ve9 ve10 ve11 ve12
   clear rV
   have HJ6:=Lib.hid (HJ.out.below (ext_below hx6))
   clear hx6 x0 x1 hbb HJ HOr HMr
   cases bb with
   | true =>
    have hle:lv oi ≤ lv ot:=of_decide_eq_true HBB.out
    have HR:Hid (m < i + 1 → i = m):=fun h=>by
     rcases Nat.lt_or_ge m i with h3 | h3
     ·have h4:=htm h3
      have h5:=HEQ.out.2 h4
      have h6:=HLT.out.1.2 h3
      rw [h5] at hle
      omega
     ·omega
    clear htm
    go_wp2_with fail
    go_roundg gk
    case rel=>exact ⟨i,i + 1,rfl,by go_num,by omega,by omega,by omega,HR.out,HJ6.out⟩
    case measure=>omega
   | false =>
    have hle:¬ lv oi ≤ lv ot:=of_decide_eq_false HBB.out
    have HR:Hid (m < i + 1 → t = m):=fun h=>by
     rcases Nat.lt_or_ge m i with h3 | h3
     ·exact htm h3
     ·have h4:i = m:=by omega
      have h5:=HEQ.out.1 h4
      have h6:=HLT.out.2.1 (by omega)
      rw [h5] at hle
      omega
    clear htm
    go_wp2_with fail
    go_roundg gk
    case rel=>exact ⟨t,i + 1,rfl,by go_num,by omega,by omega,by omega,HR.out,HJ6.out⟩
    case measure=>omega
  ·obtain rfl:t = m:=htm (by omega)
   clear htm
   have HKr:=Lib.hid (HK.out.below HJ.out.bel)
   have HOr:=Lib.hid (HO.out.below HJ.out.bel)
   have HMr:=Lib.hid (HM.out.turned (S := []) (Turned.of_below HJ.out.bel) (by simp))
   obtain ⟨-,-,-,g2,off2,hg2,hgl,hcell⟩:=HOr.out.at hp
   simp only [Option.some.injEq,Addr.mk.injEq,and_true] at hg2
   obtain ⟨rfl,rfl⟩:=hg2
   have x0:=hcell t p hp
   obtain ⟨gk1,c1,s1,rfl,-,hgk,hcp1,hcp2,a0,a1,a2,a3,a4,hkl,-⟩:=HKr.out.kid (i:=0) (x:=xl) rfl
   obtain ⟨gk2,c2,s2,hg2,-,-,-,-,b0,b1,b2,b3,b4,hkr,-⟩:=HKr.out.kid (i:=1) (x:=xr) rfl
   simp only [Option.some.injEq,Addr.mk.injEq,and_true] at hg2
   subst hg2
   unfold maxLen at hcp2
   simp only [Nat.zero_mul,Nat.zero_add,Nat.one_mul] at a0 a1 a2 a3 a4 b0 b1 b2 b3 b4
   have HCL:=Lib.hid (fun W (h:Below wr.heap.size wr W)=>HX.out.1 d c1 (.slice (some ⟨g,off,none⟩) t co) s1 b W (hkl.below h) (by
    have:=(HOr.out.below h).take (m:=t) (by omega)
    rw [HT.out.1] at this
    exact this) (HMr.out.turned (S := []) (Turned.of_below h) (by simp)))
   obtain ⟨A,hA⟩:∃ A,(if co = t + 1 then some (⟨g,off,none⟩:Addr) else some ⟨g,off + (t + 1),none⟩) = A:=⟨_,rfl⟩
   have HCR:=Lib.hid (fun W (h:Below wr.heap.size wr W)=>HX.out.2 d c2 (.slice A (N - (t + 1)) (co - (t + 1))) s2 b W (hkr.below h) (by
    have:=(HOr.out.below h).drop (m:=t + 1) (by omega)
    rw [HT.out.2] at this
    rw [← hA]
    split
    ·rename_i hco
     obtain ⟨a',cp',hv,q1,q2,q3⟩:=this
     simp only [Value.slice.injEq] at hv
     obtain ⟨-,e2,rfl⟩:=hv
     refine ⟨some ⟨g,off,none⟩,co - (t + 1),by rw [e2],q1,q2,fun j o hj => ?_⟩
     have:=(List.getElem?_eq_some_iff.1 hj).1
     omega
    ·exact this) (HMr.out.turned (S := []) (Turned.of_below h) (by simp)))
   have y0:=blk_cell (HJ.out.box) 0
   have y1:=blk_cell (HJ.out.box) 1
   have y2:=blk_cell (HJ.out.box) 2
   have y3:=blk_cell (HJ.out.box) 3
   have y4:=blk_cell (HJ.out.box) 4
   have yf0:=blk_free (HJ.out.box) 0
   have yf1:=blk_free (HJ.out.box) 1
   have yf2:=blk_free (HJ.out.box) 2
   have yf3:=blk_free (HJ.out.box) 3
   have yf4:=blk_free (HJ.out.box) 4
   have yl:=blk_lt (HJ.out.box)
   simp only [List.getElem?_toArray,List.getElem?_cons_zero,List.getElem?_cons_succ] at y0 y1 y2 y3 y4
   have hT:(t:Int) < (N:Int):=by omega
   have htco:(t:Int) ≤ (co:Int):=by omega
   have htN:(t:Int) + 1 ≤ (N:Int):=by omega
   have ht0:(0:Int) ≤ (t:Int) + 1:=by omega
   have hw1:IntKind.i64.wrap ((t:Int) + 1) = (t:Int) + 1:=IntWalk.i64_in _ (by omega)
   have hw2:IntKind.i64.wrap ((n:Int) + t) = (n:Int) + t:=IntWalk.i64_in _ (by omega)
   have hw3:IntKind.i64.wrap ((n:Int) + t + 1) = (n:Int) + t + 1:=IntWalk.i64_in _ (by omega)
   clear hcell hkl hkr hik
   go_upto_region 9 with fail
   refine reg.region_each (by kernel_rfl) reg.Ext (fun ri v w'=>match ri with
     | 0=>v = .pointer (some ⟨w.heap.size,0,none⟩)
     | 1=>v = .int .i64 18
     | 2=>v = .bool true
     | 3=>v = .bool true
     | 4=>v = .pointer (some ⟨w.heap.size,1,none⟩)
     | 5=>v = .string ⟨#[sg p]⟩
     | 6=>v = .slice (some ⟨g,off,none⟩) N co
     | 7=>v = .int .i64 t
     | 8=>v = .pointer (some ⟨g,off + t,none⟩)
     | 9=>v = .string ⟨#[sg p]⟩
     | 10=>v = .bool true
     | 11=>v = .bool true
     | 12=>v = .bool true
     | 13=>v = .pointer (some ⟨w.heap.size,3,none⟩)
     | 14=>v = .slice (some ⟨gk1,0,none⟩) 2 cv
     | 15=>v = .int .i64 2
     | 16=>v = .bool true
     | 17=>v = .bool true
     | 18=>v = .bool true
     | 19=>v = .pointer (some ⟨w.heap.size,3,none⟩)
     | 20=>v = .slice (some ⟨gk1,0,none⟩) 2 cv
     | 21=>v = .pointer (some ⟨gk1,0,none⟩)
     | 22=>v = ndV xl c1
     | 23=>v = .slice (some ⟨g,off,none⟩) N co
     | 24=>v = .int .i64 t
     | 25=>v = .slice (some ⟨g,off,none⟩) t co
     | 26=>v = .int .i64 n
     | 27=>v = .map (some b)
     | 28=>v = .bool true
     | 29=>v = .bool true
     | 30=>v = .bool true
     | 31=>v = .pointer (some ⟨w.heap.size,3,none⟩)
     | 32=>v = .slice (some ⟨gk1,0,none⟩) 2 cv
     | 33=>v = .pointer (some ⟨gk1,5,none⟩)
     | 34=>v = ndV xr c2
     | 35=>v = .slice (some ⟨g,off,none⟩) N co
     | 36=>v = .int .i64 t
     | 37=>v = .int .i64 ((t + 1:Nat):Int)
     | 38=>v = .slice A (N - (t + 1)) (co - (t + 1))
     | 39=>v = .int .i64 n
     | 40=>v = .int .i64 t
     | 41=>v = .int .i64 ((n + t:Nat):Int)
     | 42=>v = .int .i64 ((n + t + 1:Nat):Int)
     | 43=>v = .map (some b)
     | 44=>v = .bool true
     | 45=>v = .bool true
     | 46=>v = .bool true
     | _=>True) reg.Ext.refl reg.Ext.trans ?_ (by kernel_rfl) ?_ ?_
   ·
    intro i v w1 w2 h hx
    rcases i with _|_|_|_|_|_|_|_|_|_|_|_|_|_|_|_|_|_|_|_|_|_|_|_|_|_|_|_|_|_|_|_|_|_|_|_|_|_|_|_|_|_|_|_|_|_|_|i
    ·exact h
    ·exact h
    ·exact h
    ·exact h
    ·exact h
    ·exact h
    ·exact h
    ·exact h
    ·exact h
    ·exact h
    ·exact h
    ·exact h
    ·exact h
    ·exact h
    ·exact h
    ·exact h
    ·exact h
    ·exact h
    ·exact h
    ·exact h
    ·exact h
    ·exact h
    ·exact h
    ·exact h
    ·exact h
    ·exact h
    ·exact h
    ·exact h
    ·exact h
    ·exact h
    ·exact h
    ·exact h
    ·exact h
    ·exact h
    ·exact h
    ·exact h
    ·exact h
    ·exact h
    ·exact h
    ·exact h
    ·exact h
    ·exact h
    ·exact h
    ·exact h
    ·exact h
    ·exact h
    ·exact h
    ·trivial
   ·
    refine ⟨?_,?_,?_,?_,?_,?_,?_,?_,?_,?_,?_,?_,?_,?_,?_,?_,?_,?_,?_,?_,?_,?_,?_,?_,?_,?_,?_,?_,?_,?_,?_,?_,?_,?_,?_,?_,?_,?_,?_,?_,?_,?_,?_,?_,?_,?_,?_,trivial⟩
    ·-- 0: slot 45:=Op.fieldAddr 61 t4 0
     intro ra w' hx hs
     have s4:ra.eval (.tmp 4) = .pointer (some ⟨w.heap.size,0,none⟩):=hs.1
     clear hs
     have x0:=hx.cell x0
     have y0:=hx.cell y0
     have y1:=hx.cell y1
     have y3:=hx.cell y3
     have a0:=hx.cell a0
     have a1:=hx.cell a1
     have a2:=hx.cell a2
     have a3:=hx.cell a3
     have a4:=hx.cell a4
     have b0:=hx.cell b0
     have b1:=hx.cell b1
     have b2:=hx.cell b2
     have b3:=hx.cell b3
     have b4:=hx.cell b4
     change Oper.wp _ _ ra w' _ _
     refine reg.wp_value (v:=.pointer (some ⟨w.heap.size,0,none⟩)) (w':=w') ?_ ⟨_,rfl,reg.Ext.refl _,rfl⟩
     intro ρ rc rf rg re
     rw [re] at s4
     simp [execOp,go_sem,rc,rf,rg,s4] <;> first | omega | rfl | decide
    ·-- 1: slot 46:=Op.load 3 t45
     intro ra w' hx hs
     have s45:ra.eval (.tmp 45) = .pointer (some ⟨w.heap.size,0,none⟩):=hs.1
     clear hs
     have x0:=hx.cell x0
     have y0:=hx.cell y0
     have y1:=hx.cell y1
     have y3:=hx.cell y3
     have a0:=hx.cell a0
     have a1:=hx.cell a1
     have a2:=hx.cell a2
     have a3:=hx.cell a3
     have a4:=hx.cell a4
     have b0:=hx.cell b0
     have b1:=hx.cell b1
     have b2:=hx.cell b2
     have b3:=hx.cell b3
     have b4:=hx.cell b4
     change Oper.wp _ _ ra w' _ _
     refine reg.wp_value (v:=.int .i64 18) (w':=w') ?_ ⟨_,rfl,reg.Ext.refl _,rfl⟩
     intro ρ rc rf rg re
     rw [re] at s45
     simp [execOp,go_sem,rc,rf,rg,s45,y0] <;> first | omega | rfl | decide
    ·-- 2: slot 47:=Op.binOp BinOp.eql 3 t46 (const (18:i64)) 3
     intro ra w' hx hs
     have s46:ra.eval (.tmp 46) = .int .i64 18:=hs.1
     clear hs
     have x0:=hx.cell x0
     have y0:=hx.cell y0
     have y1:=hx.cell y1
     have y3:=hx.cell y3
     have a0:=hx.cell a0
     have a1:=hx.cell a1
     have a2:=hx.cell a2
     have a3:=hx.cell a3
     have a4:=hx.cell a4
     have b0:=hx.cell b0
     have b1:=hx.cell b1
     have b2:=hx.cell b2
     have b3:=hx.cell b3
     have b4:=hx.cell b4
     change Oper.wp _ _ ra w' _ _
     refine reg.wp_value (v:=.bool true) (w':=w') ?_ ⟨_,rfl,reg.Ext.refl _,rfl⟩
     intro ρ rc rf rg re
     rw [re] at s46
     simp [execOp,go_sem,rc,rf,rg,s46] <;> first | omega | rfl | decide
    ·-- 3: slot 48:=Op.move t47
     intro ra w' hx hs
     have s47:ra.eval (.tmp 47) = .bool true:=hs.1
     clear hs
     have x0:=hx.cell x0
     have y0:=hx.cell y0
     have y1:=hx.cell y1
     have y3:=hx.cell y3
     have a0:=hx.cell a0
     have a1:=hx.cell a1
     have a2:=hx.cell a2
     have a3:=hx.cell a3
     have a4:=hx.cell a4
     have b0:=hx.cell b0
     have b1:=hx.cell b1
     have b2:=hx.cell b2
     have b3:=hx.cell b3
     have b4:=hx.cell b4
     change Oper.wp _ _ ra w' _ _
     refine reg.wp_value (v:=.bool true) (w':=w') ?_ ⟨_,rfl,reg.Ext.refl _,rfl⟩
     intro ρ rc rf rg re
     rw [re] at s47
     simp [execOp,go_sem,rc,rf,rg,s47] <;> first | omega | rfl | decide
    ·-- 4: slot 49:=Op.fieldAddr 61 t4 1
     intro ra w' hx hs
     have s4:ra.eval (.tmp 4) = .pointer (some ⟨w.heap.size,0,none⟩):=hs.1
     have s48:ra.eval (.tmp 48) = .bool true:=hs.2.1
     clear hs
     have x0:=hx.cell x0
     have y0:=hx.cell y0
     have y1:=hx.cell y1
     have y3:=hx.cell y3
     have a0:=hx.cell a0
     have a1:=hx.cell a1
     have a2:=hx.cell a2
     have a3:=hx.cell a3
     have a4:=hx.cell a4
     have b0:=hx.cell b0
     have b1:=hx.cell b1
     have b2:=hx.cell b2
     have b3:=hx.cell b3
     have b4:=hx.cell b4
     refine reg.want_yes rfl rfl rfl s48 rfl ?_
     change Oper.wp _ _ ra w' _ _
     refine reg.wp_value (v:=.pointer (some ⟨w.heap.size,1,none⟩)) (w':=w') ?_ ⟨_,rfl,reg.Ext.refl _,rfl⟩
     intro ρ rc rf rg re
     rw [re] at s4 s48
     simp [execOp,go_sem,rc,rf,rg,s4,s48] <;> first | omega | rfl | decide
    ·-- 5: slot 50:=Op.load 9 t49
     intro ra w' hx hs
     have s49:ra.eval (.tmp 49) = .pointer (some ⟨w.heap.size,1,none⟩):=hs.1
     have s48:ra.eval (.tmp 48) = .bool true:=hs.2.1
     clear hs
     have x0:=hx.cell x0
     have y0:=hx.cell y0
     have y1:=hx.cell y1
     have y3:=hx.cell y3
     have a0:=hx.cell a0
     have a1:=hx.cell a1
     have a2:=hx.cell a2
     have a3:=hx.cell a3
     have a4:=hx.cell a4
     have b0:=hx.cell b0
     have b1:=hx.cell b1
     have b2:=hx.cell b2
     have b3:=hx.cell b3
     have b4:=hx.cell b4
     refine reg.want_yes rfl rfl rfl s48 rfl ?_
     change Oper.wp _ _ ra w' _ _
     refine reg.wp_value (v:=.string ⟨#[sg p]⟩) (w':=w') ?_ ⟨_,rfl,reg.Ext.refl _,rfl⟩
     intro ρ rc rf rg re
     rw [re] at s49 s48
     simp [execOp,go_sem,rc,rf,rg,s49,s48,y1] <;> first | omega | rfl | decide
    ·-- 6: slot 51:=Op.move t1
     intro ra w' hx hs
     have s1:ra.eval (.tmp 1) = .slice (some ⟨g,off,none⟩) N co:=hs.1
     have s48:ra.eval (.tmp 48) = .bool true:=hs.2.1
     clear hs
     have x0:=hx.cell x0
     have y0:=hx.cell y0
     have y1:=hx.cell y1
     have y3:=hx.cell y3
     have a0:=hx.cell a0
     have a1:=hx.cell a1
     have a2:=hx.cell a2
     have a3:=hx.cell a3
     have a4:=hx.cell a4
     have b0:=hx.cell b0
     have b1:=hx.cell b1
     have b2:=hx.cell b2
     have b3:=hx.cell b3
     have b4:=hx.cell b4
     refine reg.want_yes rfl rfl rfl s48 rfl ?_
     change Oper.wp _ _ ra w' _ _
     refine reg.wp_value (v:=.slice (some ⟨g,off,none⟩) N co) (w':=w') ?_ ⟨_,rfl,reg.Ext.refl _,rfl⟩
     intro ρ rc rf rg re
     rw [re] at s1 s48
     simp [execOp,go_sem,rc,rf,rg,s1,s48] <;> first | omega | rfl | decide
    ·-- 7: slot 52:=Op.move t9
     intro ra w' hx hs
     have s9:ra.eval (.tmp 9) = .int .i64 t:=hs.1
     have s48:ra.eval (.tmp 48) = .bool true:=hs.2.1
     clear hs
     have x0:=hx.cell x0
     have y0:=hx.cell y0
     have y1:=hx.cell y1
     have y3:=hx.cell y3
     have a0:=hx.cell a0
     have a1:=hx.cell a1
     have a2:=hx.cell a2
     have a3:=hx.cell a3
     have a4:=hx.cell a4
     have b0:=hx.cell b0
     have b1:=hx.cell b1
     have b2:=hx.cell b2
     have b3:=hx.cell b3
     have b4:=hx.cell b4
     refine reg.want_yes rfl rfl rfl s48 rfl ?_
     change Oper.wp _ _ ra w' _ _
     refine reg.wp_value (v:=.int .i64 t) (w':=w') ?_ ⟨_,rfl,reg.Ext.refl _,rfl⟩
     intro ρ rc rf rg re
     rw [re] at s9 s48
     simp [execOp,go_sem,rc,rf,rg,s9,s48] <;> first | omega | rfl | decide
    ·-- 8: slot 53:=Op.indexAddr 39 t51 t52
     intro ra w' hx hs
     have s51:ra.eval (.tmp 51) = .slice (some ⟨g,off,none⟩) N co:=hs.1
     have s52:ra.eval (.tmp 52) = .int .i64 t:=hs.2.1
     have s48:ra.eval (.tmp 48) = .bool true:=hs.2.2.1
     clear hs
     have x0:=hx.cell x0
     have y0:=hx.cell y0
     have y1:=hx.cell y1
     have y3:=hx.cell y3
     have a0:=hx.cell a0
     have a1:=hx.cell a1
     have a2:=hx.cell a2
     have a3:=hx.cell a3
     have a4:=hx.cell a4
     have b0:=hx.cell b0
     have b1:=hx.cell b1
     have b2:=hx.cell b2
     have b3:=hx.cell b3
     have b4:=hx.cell b4
     refine reg.want_yes rfl rfl rfl s48 rfl ?_
     change Oper.wp _ _ ra w' _ _
     refine reg.wp_value (v:=.pointer (some ⟨g,off + t,none⟩)) (w':=w') ?_ ⟨_,rfl,reg.Ext.refl _,rfl⟩
     intro ρ rc rf rg re
     rw [re] at s51 s52 s48
     simp [execOp,go_sem,rc,rf,rg,s51,s52,s48,hT] <;> first | omega | rfl | decide
    ·-- 9: slot 54:=Op.load 9 t53
     intro ra w' hx hs
     have s53:ra.eval (.tmp 53) = .pointer (some ⟨g,off + t,none⟩):=hs.1
     have s48:ra.eval (.tmp 48) = .bool true:=hs.2.1
     clear hs
     have x0:=hx.cell x0
     have y0:=hx.cell y0
     have y1:=hx.cell y1
     have y3:=hx.cell y3
     have a0:=hx.cell a0
     have a1:=hx.cell a1
     have a2:=hx.cell a2
     have a3:=hx.cell a3
     have a4:=hx.cell a4
     have b0:=hx.cell b0
     have b1:=hx.cell b1
     have b2:=hx.cell b2
     have b3:=hx.cell b3
     have b4:=hx.cell b4
     refine reg.want_yes rfl rfl rfl s48 rfl ?_
     change Oper.wp _ _ ra w' _ _
     refine reg.wp_value (v:=.string ⟨#[sg p]⟩) (w':=w') ?_ ⟨_,rfl,reg.Ext.refl _,rfl⟩
     intro ρ rc rf rg re
     rw [re] at s53 s48
     simp [execOp,go_sem,rc,rf,rg,s53,s48,x0] <;> first | omega | rfl | decide
    ·-- 10: slot 55:=Op.binOp BinOp.eql 9 t50 t54 9
     intro ra w' hx hs
     have s50:ra.eval (.tmp 50) = .string ⟨#[sg p]⟩:=hs.1
     have s54:ra.eval (.tmp 54) = .string ⟨#[sg p]⟩:=hs.2.1
     have s48:ra.eval (.tmp 48) = .bool true:=hs.2.2.1
     clear hs
     have x0:=hx.cell x0
     have y0:=hx.cell y0
     have y1:=hx.cell y1
     have y3:=hx.cell y3
     have a0:=hx.cell a0
     have a1:=hx.cell a1
     have a2:=hx.cell a2
     have a3:=hx.cell a3
     have a4:=hx.cell a4
     have b0:=hx.cell b0
     have b1:=hx.cell b1
     have b2:=hx.cell b2
     have b3:=hx.cell b3
     have b4:=hx.cell b4
     refine reg.want_yes rfl rfl rfl s48 rfl ?_
     change Oper.wp _ _ ra w' _ _
     refine reg.wp_value (v:=.bool true) (w':=w') ?_ ⟨_,rfl,reg.Ext.refl _,rfl⟩
     intro ρ rc rf rg re
     rw [re] at s50 s54 s48
     simp [execOp,go_sem,rc,rf,rg,s50,s54,s48] <;> first | omega | rfl | decide
    ·-- 11: slot 56:=Op.pick t48 t55 (const (Value.bool false))
     intro ra w' hx hs
     have s48:ra.eval (.tmp 48) = .bool true:=hs.1
     have s55:ra.eval (.tmp 55) = .bool true:=hs.2.1
     clear hs
     have x0:=hx.cell x0
     have y0:=hx.cell y0
     have y1:=hx.cell y1
     have y3:=hx.cell y3
     have a0:=hx.cell a0
     have a1:=hx.cell a1
     have a2:=hx.cell a2
     have a3:=hx.cell a3
     have a4:=hx.cell a4
     have b0:=hx.cell b0
     have b1:=hx.cell b1
     have b2:=hx.cell b2
     have b3:=hx.cell b3
     have b4:=hx.cell b4
     change Oper.wp _ _ ra w' _ _
     refine reg.wp_value (v:=.bool true) (w':=w') ?_ ⟨_,rfl,reg.Ext.refl _,rfl⟩
     intro ρ rc rf rg re
     rw [re] at s48 s55
     simp [execOp,go_sem,rc,rf,rg,s48,s55] <;> first | omega | rfl | decide
    ·-- 12: slot 57:=Op.move t56
     intro ra w' hx hs
     have s56:ra.eval (.tmp 56) = .bool true:=hs.1
     clear hs
     have x0:=hx.cell x0
     have y0:=hx.cell y0
     have y1:=hx.cell y1
     have y3:=hx.cell y3
     have a0:=hx.cell a0
     have a1:=hx.cell a1
     have a2:=hx.cell a2
     have a3:=hx.cell a3
     have a4:=hx.cell a4
     have b0:=hx.cell b0
     have b1:=hx.cell b1
     have b2:=hx.cell b2
     have b3:=hx.cell b3
     have b4:=hx.cell b4
     change Oper.wp _ _ ra w' _ _
     refine reg.wp_value (v:=.bool true) (w':=w') ?_ ⟨_,rfl,reg.Ext.refl _,rfl⟩
     intro ρ rc rf rg re
     rw [re] at s56
     simp [execOp,go_sem,rc,rf,rg,s56] <;> first | omega | rfl | decide
    ·-- 13: slot 58:=Op.fieldAddr 61 t4 3
     intro ra w' hx hs
     have s4:ra.eval (.tmp 4) = .pointer (some ⟨w.heap.size,0,none⟩):=hs.1
     have s57:ra.eval (.tmp 57) = .bool true:=hs.2.1
     clear hs
     have x0:=hx.cell x0
     have y0:=hx.cell y0
     have y1:=hx.cell y1
     have y3:=hx.cell y3
     have a0:=hx.cell a0
     have a1:=hx.cell a1
     have a2:=hx.cell a2
     have a3:=hx.cell a3
     have a4:=hx.cell a4
     have b0:=hx.cell b0
     have b1:=hx.cell b1
     have b2:=hx.cell b2
     have b3:=hx.cell b3
     have b4:=hx.cell b4
     refine reg.want_yes rfl rfl rfl s57 rfl ?_
     change Oper.wp _ _ ra w' _ _
     refine reg.wp_value (v:=.pointer (some ⟨w.heap.size,3,none⟩)) (w':=w') ?_ ⟨_,rfl,reg.Ext.refl _,rfl⟩
     intro ρ rc rf rg re
     rw [re] at s4 s57
     simp [execOp,go_sem,rc,rf,rg,s4,s57] <;> first | omega | rfl | decide
    ·-- 14: slot 59:=Op.load 59 t58
     intro ra w' hx hs
     have s58:ra.eval (.tmp 58) = .pointer (some ⟨w.heap.size,3,none⟩):=hs.1
     have s57:ra.eval (.tmp 57) = .bool true:=hs.2.1
     clear hs
     have x0:=hx.cell x0
     have y0:=hx.cell y0
     have y1:=hx.cell y1
     have y3:=hx.cell y3
     have a0:=hx.cell a0
     have a1:=hx.cell a1
     have a2:=hx.cell a2
     have a3:=hx.cell a3
     have a4:=hx.cell a4
     have b0:=hx.cell b0
     have b1:=hx.cell b1
     have b2:=hx.cell b2
     have b3:=hx.cell b3
     have b4:=hx.cell b4
     refine reg.want_yes rfl rfl rfl s57 rfl ?_
     change Oper.wp _ _ ra w' _ _
     refine reg.wp_value (v:=.slice (some ⟨gk1,0,none⟩) 2 cv) (w':=w') ?_ ⟨_,rfl,reg.Ext.refl _,rfl⟩
     intro ρ rc rf rg re
     rw [re] at s58 s57
     simp [execOp,go_sem,rc,rf,rg,s58,s57,y3] <;> first | omega | rfl | decide
    ·-- 15: slot 60:=Op.call { builtin len,args := #[t59],argTypes := #[59] }
     intro ra w' hx hs
     have s59:ra.eval (.tmp 59) = .slice (some ⟨gk1,0,none⟩) 2 cv:=hs.1
     have s57:ra.eval (.tmp 57) = .bool true:=hs.2.1
     clear hs
     have x0:=hx.cell x0
     have y0:=hx.cell y0
     have y1:=hx.cell y1
     have y3:=hx.cell y3
     have a0:=hx.cell a0
     have a1:=hx.cell a1
     have a2:=hx.cell a2
     have a3:=hx.cell a3
     have a4:=hx.cell a4
     have b0:=hx.cell b0
     have b1:=hx.cell b1
     have b2:=hx.cell b2
     have b3:=hx.cell b3
     have b4:=hx.cell b4
     refine reg.want_yes rfl rfl rfl s57 rfl ?_
     change Oper.wp _ _ ra w' _ _
     refine reg.wp_value (v:=.int .i64 2) (w':=w') ?_ ⟨_,rfl,reg.Ext.refl _,rfl⟩
     intro ρ rc rf rg re
     rw [re] at s59 s57
     simp [execOp,go_sem,rc,rf,rg,s59,s57] <;> first | omega | rfl | decide
    ·-- 16: slot 61:=Op.binOp BinOp.eql 3 t60 (const (2:i64)) 3
     intro ra w' hx hs
     have s60:ra.eval (.tmp 60) = .int .i64 2:=hs.1
     have s57:ra.eval (.tmp 57) = .bool true:=hs.2.1
     clear hs
     have x0:=hx.cell x0
     have y0:=hx.cell y0
     have y1:=hx.cell y1
     have y3:=hx.cell y3
     have a0:=hx.cell a0
     have a1:=hx.cell a1
     have a2:=hx.cell a2
     have a3:=hx.cell a3
     have a4:=hx.cell a4
     have b0:=hx.cell b0
     have b1:=hx.cell b1
     have b2:=hx.cell b2
     have b3:=hx.cell b3
     have b4:=hx.cell b4
     refine reg.want_yes rfl rfl rfl s57 rfl ?_
     change Oper.wp _ _ ra w' _ _
     refine reg.wp_value (v:=.bool true) (w':=w') ?_ ⟨_,rfl,reg.Ext.refl _,rfl⟩
     intro ρ rc rf rg re
     rw [re] at s60 s57
     simp [execOp,go_sem,rc,rf,rg,s60,s57] <;> first | omega | rfl | decide
    ·-- 17: slot 62:=Op.pick t57 t61 (const (Value.bool false))
     intro ra w' hx hs
     have s57:ra.eval (.tmp 57) = .bool true:=hs.1
     have s61:ra.eval (.tmp 61) = .bool true:=hs.2.1
     clear hs
     have x0:=hx.cell x0
     have y0:=hx.cell y0
     have y1:=hx.cell y1
     have y3:=hx.cell y3
     have a0:=hx.cell a0
     have a1:=hx.cell a1
     have a2:=hx.cell a2
     have a3:=hx.cell a3
     have a4:=hx.cell a4
     have b0:=hx.cell b0
     have b1:=hx.cell b1
     have b2:=hx.cell b2
     have b3:=hx.cell b3
     have b4:=hx.cell b4
     change Oper.wp _ _ ra w' _ _
     refine reg.wp_value (v:=.bool true) (w':=w') ?_ ⟨_,rfl,reg.Ext.refl _,rfl⟩
     intro ρ rc rf rg re
     rw [re] at s57 s61
     simp [execOp,go_sem,rc,rf,rg,s57,s61] <;> first | omega | rfl | decide
    ·-- 18: slot 63:=Op.move t62
     intro ra w' hx hs
     have s62:ra.eval (.tmp 62) = .bool true:=hs.1
     clear hs
     have x0:=hx.cell x0
     have y0:=hx.cell y0
     have y1:=hx.cell y1
     have y3:=hx.cell y3
     have a0:=hx.cell a0
     have a1:=hx.cell a1
     have a2:=hx.cell a2
     have a3:=hx.cell a3
     have a4:=hx.cell a4
     have b0:=hx.cell b0
     have b1:=hx.cell b1
     have b2:=hx.cell b2
     have b3:=hx.cell b3
     have b4:=hx.cell b4
     change Oper.wp _ _ ra w' _ _
     refine reg.wp_value (v:=.bool true) (w':=w') ?_ ⟨_,rfl,reg.Ext.refl _,rfl⟩
     intro ρ rc rf rg re
     rw [re] at s62
     simp [execOp,go_sem,rc,rf,rg,s62] <;> first | omega | rfl | decide
    ·-- 19: slot 64:=Op.fieldAddr 61 t4 3
     intro ra w' hx hs
     have s4:ra.eval (.tmp 4) = .pointer (some ⟨w.heap.size,0,none⟩):=hs.1
     have s63:ra.eval (.tmp 63) = .bool true:=hs.2.1
     clear hs
     have x0:=hx.cell x0
     have y0:=hx.cell y0
     have y1:=hx.cell y1
     have y3:=hx.cell y3
     have a0:=hx.cell a0
     have a1:=hx.cell a1
     have a2:=hx.cell a2
     have a3:=hx.cell a3
     have a4:=hx.cell a4
     have b0:=hx.cell b0
     have b1:=hx.cell b1
     have b2:=hx.cell b2
     have b3:=hx.cell b3
     have b4:=hx.cell b4
     refine reg.want_yes rfl rfl rfl s63 rfl ?_
     change Oper.wp _ _ ra w' _ _
     refine reg.wp_value (v:=.pointer (some ⟨w.heap.size,3,none⟩)) (w':=w') ?_ ⟨_,rfl,reg.Ext.refl _,rfl⟩
     intro ρ rc rf rg re
     rw [re] at s4 s63
     simp [execOp,go_sem,rc,rf,rg,s4,s63] <;> first | omega | rfl | decide
    ·-- 20: slot 65:=Op.load 59 t64
     intro ra w' hx hs
     have s64:ra.eval (.tmp 64) = .pointer (some ⟨w.heap.size,3,none⟩):=hs.1
     have s63:ra.eval (.tmp 63) = .bool true:=hs.2.1
     clear hs
     have x0:=hx.cell x0
     have y0:=hx.cell y0
     have y1:=hx.cell y1
     have y3:=hx.cell y3
     have a0:=hx.cell a0
     have a1:=hx.cell a1
     have a2:=hx.cell a2
     have a3:=hx.cell a3
     have a4:=hx.cell a4
     have b0:=hx.cell b0
     have b1:=hx.cell b1
     have b2:=hx.cell b2
     have b3:=hx.cell b3
     have b4:=hx.cell b4
     refine reg.want_yes rfl rfl rfl s63 rfl ?_
     change Oper.wp _ _ ra w' _ _
     refine reg.wp_value (v:=.slice (some ⟨gk1,0,none⟩) 2 cv) (w':=w') ?_ ⟨_,rfl,reg.Ext.refl _,rfl⟩
     intro ρ rc rf rg re
     rw [re] at s64 s63
     simp [execOp,go_sem,rc,rf,rg,s64,s63,y3] <;> first | omega | rfl | decide
    ·-- 21: slot 66:=Op.indexAddr 59 t65 (const (0:i64))
     intro ra w' hx hs
     have s65:ra.eval (.tmp 65) = .slice (some ⟨gk1,0,none⟩) 2 cv:=hs.1
     have s63:ra.eval (.tmp 63) = .bool true:=hs.2.1
     clear hs
     have x0:=hx.cell x0
     have y0:=hx.cell y0
     have y1:=hx.cell y1
     have y3:=hx.cell y3
     have a0:=hx.cell a0
     have a1:=hx.cell a1
     have a2:=hx.cell a2
     have a3:=hx.cell a3
     have a4:=hx.cell a4
     have b0:=hx.cell b0
     have b1:=hx.cell b1
     have b2:=hx.cell b2
     have b3:=hx.cell b3
     have b4:=hx.cell b4
     refine reg.want_yes rfl rfl rfl s63 rfl ?_
     change Oper.wp _ _ ra w' _ _
     refine reg.wp_value (v:=.pointer (some ⟨gk1,0,none⟩)) (w':=w') ?_ ⟨_,rfl,reg.Ext.refl _,rfl⟩
     intro ρ rc rf rg re
     rw [re] at s65 s63
     simp [execOp,go_sem,rc,rf,rg,s65,s63] <;> first | omega | rfl | decide
    ·-- 22: slot 67:=Op.load 61 t66
     intro ra w' hx hs
     have s66:ra.eval (.tmp 66) = .pointer (some ⟨gk1,0,none⟩):=hs.1
     have s63:ra.eval (.tmp 63) = .bool true:=hs.2.1
     clear hs
     have x0:=hx.cell x0
     have y0:=hx.cell y0
     have y1:=hx.cell y1
     have y3:=hx.cell y3
     have a0:=hx.cell a0
     have a1:=hx.cell a1
     have a2:=hx.cell a2
     have a3:=hx.cell a3
     have a4:=hx.cell a4
     have b0:=hx.cell b0
     have b1:=hx.cell b1
     have b2:=hx.cell b2
     have b3:=hx.cell b3
     have b4:=hx.cell b4
     refine reg.want_yes rfl rfl rfl s63 rfl ?_
     change Oper.wp _ _ ra w' _ _
     refine reg.wp_value (v:=ndV xl c1) (w':=w') ?_ ⟨_,rfl,reg.Ext.refl _,rfl⟩
     intro ρ rc rf rg re
     rw [re] at s66 s63
     simp [execOp,go_sem,rc,rf,rg,s66,s63,a0,a1,a2,a3,a4] <;> first | omega | rfl | decide
    ·-- 23: slot 68:=Op.move t1
     intro ra w' hx hs
     have s1:ra.eval (.tmp 1) = .slice (some ⟨g,off,none⟩) N co:=hs.1
     have s63:ra.eval (.tmp 63) = .bool true:=hs.2.1
     clear hs
     have x0:=hx.cell x0
     have y0:=hx.cell y0
     have y1:=hx.cell y1
     have y3:=hx.cell y3
     have a0:=hx.cell a0
     have a1:=hx.cell a1
     have a2:=hx.cell a2
     have a3:=hx.cell a3
     have a4:=hx.cell a4
     have b0:=hx.cell b0
     have b1:=hx.cell b1
     have b2:=hx.cell b2
     have b3:=hx.cell b3
     have b4:=hx.cell b4
     refine reg.want_yes rfl rfl rfl s63 rfl ?_
     change Oper.wp _ _ ra w' _ _
     refine reg.wp_value (v:=.slice (some ⟨g,off,none⟩) N co) (w':=w') ?_ ⟨_,rfl,reg.Ext.refl _,rfl⟩
     intro ρ rc rf rg re
     rw [re] at s1 s63
     simp [execOp,go_sem,rc,rf,rg,s1,s63] <;> first | omega | rfl | decide
    ·-- 24: slot 69:=Op.move t9
     intro ra w' hx hs
     have s9:ra.eval (.tmp 9) = .int .i64 t:=hs.1
     have s63:ra.eval (.tmp 63) = .bool true:=hs.2.1
     clear hs
     have x0:=hx.cell x0
     have y0:=hx.cell y0
     have y1:=hx.cell y1
     have y3:=hx.cell y3
     have a0:=hx.cell a0
     have a1:=hx.cell a1
     have a2:=hx.cell a2
     have a3:=hx.cell a3
     have a4:=hx.cell a4
     have b0:=hx.cell b0
     have b1:=hx.cell b1
     have b2:=hx.cell b2
     have b3:=hx.cell b3
     have b4:=hx.cell b4
     refine reg.want_yes rfl rfl rfl s63 rfl ?_
     change Oper.wp _ _ ra w' _ _
     refine reg.wp_value (v:=.int .i64 t) (w':=w') ?_ ⟨_,rfl,reg.Ext.refl _,rfl⟩
     intro ρ rc rf rg re
     rw [re] at s9 s63
     simp [execOp,go_sem,rc,rf,rg,s9,s63] <;> first | omega | rfl | decide
    ·-- 25: slot 70:=Op.slice 39 t68 none (some t69) none
     intro ra w' hx hs
     have s68:ra.eval (.tmp 68) = .slice (some ⟨g,off,none⟩) N co:=hs.1
     have s69:ra.eval (.tmp 69) = .int .i64 t:=hs.2.1
     have s63:ra.eval (.tmp 63) = .bool true:=hs.2.2.1
     clear hs
     have x0:=hx.cell x0
     have y0:=hx.cell y0
     have y1:=hx.cell y1
     have y3:=hx.cell y3
     have a0:=hx.cell a0
     have a1:=hx.cell a1
     have a2:=hx.cell a2
     have a3:=hx.cell a3
     have a4:=hx.cell a4
     have b0:=hx.cell b0
     have b1:=hx.cell b1
     have b2:=hx.cell b2
     have b3:=hx.cell b3
     have b4:=hx.cell b4
     refine reg.want_yes rfl rfl rfl s63 rfl ?_
     change Oper.wp _ _ ra w' _ _
     refine reg.wp_value (v:=.slice (some ⟨g,off,none⟩) t co) (w':=w') ?_ ⟨_,rfl,reg.Ext.refl _,rfl⟩
     intro ρ rc rf rg re
     rw [re] at s68 s69 s63
     simp [execOp,go_sem,rc,rf,rg,s68,s69,s63,htco] <;> first | omega | rfl | decide
    ·-- 26: slot 71:=Op.move t2
     intro ra w' hx hs
     have s2:ra.eval (.tmp 2) = .int .i64 n:=hs.1
     have s63:ra.eval (.tmp 63) = .bool true:=hs.2.1
     clear hs
     have x0:=hx.cell x0
     have y0:=hx.cell y0
     have y1:=hx.cell y1
     have y3:=hx.cell y3
     have a0:=hx.cell a0
     have a1:=hx.cell a1
     have a2:=hx.cell a2
     have a3:=hx.cell a3
     have a4:=hx.cell a4
     have b0:=hx.cell b0
     have b1:=hx.cell b1
     have b2:=hx.cell b2
     have b3:=hx.cell b3
     have b4:=hx.cell b4
     refine reg.want_yes rfl rfl rfl s63 rfl ?_
     change Oper.wp _ _ ra w' _ _
     refine reg.wp_value (v:=.int .i64 n) (w':=w') ?_ ⟨_,rfl,reg.Ext.refl _,rfl⟩
     intro ρ rc rf rg re
     rw [re] at s2 s63
     simp [execOp,go_sem,rc,rf,rg,s2,s63] <;> first | omega | rfl | decide
    ·-- 27: slot 72:=Op.move t3
     intro ra w' hx hs
     have s3:ra.eval (.tmp 3) = .map (some b):=hs.1
     have s63:ra.eval (.tmp 63) = .bool true:=hs.2.1
     clear hs
     have x0:=hx.cell x0
     have y0:=hx.cell y0
     have y1:=hx.cell y1
     have y3:=hx.cell y3
     have a0:=hx.cell a0
     have a1:=hx.cell a1
     have a2:=hx.cell a2
     have a3:=hx.cell a3
     have a4:=hx.cell a4
     have b0:=hx.cell b0
     have b1:=hx.cell b1
     have b2:=hx.cell b2
     have b3:=hx.cell b3
     have b4:=hx.cell b4
     refine reg.want_yes rfl rfl rfl s63 rfl ?_
     change Oper.wp _ _ ra w' _ _
     refine reg.wp_value (v:=.map (some b)) (w':=w') ?_ ⟨_,rfl,reg.Ext.refl _,rfl⟩
     intro ρ rc rf rg re
     rw [re] at s3 s63
     simp [execOp,go_sem,rc,rf,rg,s3,s63] <;> first | omega | rfl | decide
    ·-- 28: slot 73:=Op.call { value (Operand.func 30),args := #[t67,t70,t71,t72],argTypes := #[61,39,3,70] }
     intro ra w' hx hs
     have s67:ra.eval (.tmp 67) = ndV xl c1:=hs.1
     have s70:ra.eval (.tmp 70) = .slice (some ⟨g,off,none⟩) t co:=hs.2.1
     have s71:ra.eval (.tmp 71) = .int .i64 n:=hs.2.2.1
     have s72:ra.eval (.tmp 72) = .map (some b):=hs.2.2.2.1
     have s63:ra.eval (.tmp 63) = .bool true:=hs.2.2.2.2.1
     clear hs
     have x0:=hx.cell x0
     have y0:=hx.cell y0
     have y1:=hx.cell y1
     have y3:=hx.cell y3
     have a0:=hx.cell a0
     have a1:=hx.cell a1
     have a2:=hx.cell a2
     have a3:=hx.cell a3
     have a4:=hx.cell a4
     have b0:=hx.cell b0
     have b1:=hx.cell b1
     have b2:=hx.cell b2
     have b3:=hx.cell b3
     have b4:=hx.cell b4
     refine reg.want_yes rfl rfl rfl s63 rfl ?_
     change Oper.wp _ _ ra w' _ _
     refine reg.wp_call (f:=30) (args := #[ndV xl c1,.slice (some ⟨g,off,none⟩) t co,.int .i64 n,.map (some b)]) (w':=w') ?_ ((HCL.out w' (ext_below hx)).mono ?_)
     ·intro ρ rc rf rg re
      rw [re] at s67 s70 s71 s72 s63
      simp [execOp,go_sem,rc,rf,rg,s67,s70,s71,s72,s63] <;> first | omega | rfl | decide
     ·rintro e w2 ⟨rfl,hb⟩
      exact ⟨_,rfl,_,rfl,hb,rfl⟩
    ·-- 29: slot 74:=Op.pick t63 t73 (const (Value.bool false))
     intro ra w' hx hs
     have s63:ra.eval (.tmp 63) = .bool true:=hs.1
     have s73:ra.eval (.tmp 73) = .bool true:=hs.2.1
     clear hs
     have x0:=hx.cell x0
     have y0:=hx.cell y0
     have y1:=hx.cell y1
     have y3:=hx.cell y3
     have a0:=hx.cell a0
     have a1:=hx.cell a1
     have a2:=hx.cell a2
     have a3:=hx.cell a3
     have a4:=hx.cell a4
     have b0:=hx.cell b0
     have b1:=hx.cell b1
     have b2:=hx.cell b2
     have b3:=hx.cell b3
     have b4:=hx.cell b4
     change Oper.wp _ _ ra w' _ _
     refine reg.wp_value (v:=.bool true) (w':=w') ?_ ⟨_,rfl,reg.Ext.refl _,rfl⟩
     intro ρ rc rf rg re
     rw [re] at s63 s73
     simp [execOp,go_sem,rc,rf,rg,s63,s73] <;> first | omega | rfl | decide
    ·-- 30: slot 75:=Op.move t74
     intro ra w' hx hs
     have s74:ra.eval (.tmp 74) = .bool true:=hs.1
     clear hs
     have x0:=hx.cell x0
     have y0:=hx.cell y0
     have y1:=hx.cell y1
     have y3:=hx.cell y3
     have a0:=hx.cell a0
     have a1:=hx.cell a1
     have a2:=hx.cell a2
     have a3:=hx.cell a3
     have a4:=hx.cell a4
     have b0:=hx.cell b0
     have b1:=hx.cell b1
     have b2:=hx.cell b2
     have b3:=hx.cell b3
     have b4:=hx.cell b4
     change Oper.wp _ _ ra w' _ _
     refine reg.wp_value (v:=.bool true) (w':=w') ?_ ⟨_,rfl,reg.Ext.refl _,rfl⟩
     intro ρ rc rf rg re
     rw [re] at s74
     simp [execOp,go_sem,rc,rf,rg,s74] <;> first | omega | rfl | decide
    ·-- 31: slot 76:=Op.fieldAddr 61 t4 3
     intro ra w' hx hs
     have s4:ra.eval (.tmp 4) = .pointer (some ⟨w.heap.size,0,none⟩):=hs.1
     have s75:ra.eval (.tmp 75) = .bool true:=hs.2.1
     clear hs
     have x0:=hx.cell x0
     have y0:=hx.cell y0
     have y1:=hx.cell y1
     have y3:=hx.cell y3
     have a0:=hx.cell a0
     have a1:=hx.cell a1
     have a2:=hx.cell a2
     have a3:=hx.cell a3
     have a4:=hx.cell a4
     have b0:=hx.cell b0
     have b1:=hx.cell b1
     have b2:=hx.cell b2
     have b3:=hx.cell b3
     have b4:=hx.cell b4
     refine reg.want_yes rfl rfl rfl s75 rfl ?_
     change Oper.wp _ _ ra w' _ _
     refine reg.wp_value (v:=.pointer (some ⟨w.heap.size,3,none⟩)) (w':=w') ?_ ⟨_,rfl,reg.Ext.refl _,rfl⟩
     intro ρ rc rf rg re
     rw [re] at s4 s75
     simp [execOp,go_sem,rc,rf,rg,s4,s75] <;> first | omega | rfl | decide
    ·-- 32: slot 77:=Op.load 59 t76
     intro ra w' hx hs
     have s76:ra.eval (.tmp 76) = .pointer (some ⟨w.heap.size,3,none⟩):=hs.1
     have s75:ra.eval (.tmp 75) = .bool true:=hs.2.1
     clear hs
     have x0:=hx.cell x0
     have y0:=hx.cell y0
     have y1:=hx.cell y1
     have y3:=hx.cell y3
     have a0:=hx.cell a0
     have a1:=hx.cell a1
     have a2:=hx.cell a2
     have a3:=hx.cell a3
     have a4:=hx.cell a4
     have b0:=hx.cell b0
     have b1:=hx.cell b1
     have b2:=hx.cell b2
     have b3:=hx.cell b3
     have b4:=hx.cell b4
     refine reg.want_yes rfl rfl rfl s75 rfl ?_
     change Oper.wp _ _ ra w' _ _
     refine reg.wp_value (v:=.slice (some ⟨gk1,0,none⟩) 2 cv) (w':=w') ?_ ⟨_,rfl,reg.Ext.refl _,rfl⟩
     intro ρ rc rf rg re
     rw [re] at s76 s75
     simp [execOp,go_sem,rc,rf,rg,s76,s75,y3] <;> first | omega | rfl | decide
    ·-- 33: slot 78:=Op.indexAddr 59 t77 (const (1:i64))
     intro ra w' hx hs
     have s77:ra.eval (.tmp 77) = .slice (some ⟨gk1,0,none⟩) 2 cv:=hs.1
     have s75:ra.eval (.tmp 75) = .bool true:=hs.2.1
     clear hs
     have x0:=hx.cell x0
     have y0:=hx.cell y0
     have y1:=hx.cell y1
     have y3:=hx.cell y3
     have a0:=hx.cell a0
     have a1:=hx.cell a1
     have a2:=hx.cell a2
     have a3:=hx.cell a3
     have a4:=hx.cell a4
     have b0:=hx.cell b0
     have b1:=hx.cell b1
     have b2:=hx.cell b2
     have b3:=hx.cell b3
     have b4:=hx.cell b4
     refine reg.want_yes rfl rfl rfl s75 rfl ?_
     change Oper.wp _ _ ra w' _ _
     refine reg.wp_value (v:=.pointer (some ⟨gk1,5,none⟩)) (w':=w') ?_ ⟨_,rfl,reg.Ext.refl _,rfl⟩
     intro ρ rc rf rg re
     rw [re] at s77 s75
     simp [execOp,go_sem,rc,rf,rg,s77,s75] <;> first | omega | rfl | decide
    ·-- 34: slot 79:=Op.load 61 t78
     intro ra w' hx hs
     have s78:ra.eval (.tmp 78) = .pointer (some ⟨gk1,5,none⟩):=hs.1
     have s75:ra.eval (.tmp 75) = .bool true:=hs.2.1
     clear hs
     have x0:=hx.cell x0
     have y0:=hx.cell y0
     have y1:=hx.cell y1
     have y3:=hx.cell y3
     have a0:=hx.cell a0
     have a1:=hx.cell a1
     have a2:=hx.cell a2
     have a3:=hx.cell a3
     have a4:=hx.cell a4
     have b0:=hx.cell b0
     have b1:=hx.cell b1
     have b2:=hx.cell b2
     have b3:=hx.cell b3
     have b4:=hx.cell b4
     refine reg.want_yes rfl rfl rfl s75 rfl ?_
     change Oper.wp _ _ ra w' _ _
     refine reg.wp_value (v:=ndV xr c2) (w':=w') ?_ ⟨_,rfl,reg.Ext.refl _,rfl⟩
     intro ρ rc rf rg re
     rw [re] at s78 s75
     simp [execOp,go_sem,rc,rf,rg,s78,s75,b0,b1,b2,b3,b4] <;> first | omega | rfl | decide
    ·-- 35: slot 80:=Op.move t1
     intro ra w' hx hs
     have s1:ra.eval (.tmp 1) = .slice (some ⟨g,off,none⟩) N co:=hs.1
     have s75:ra.eval (.tmp 75) = .bool true:=hs.2.1
     clear hs
     have x0:=hx.cell x0
     have y0:=hx.cell y0
     have y1:=hx.cell y1
     have y3:=hx.cell y3
     have a0:=hx.cell a0
     have a1:=hx.cell a1
     have a2:=hx.cell a2
     have a3:=hx.cell a3
     have a4:=hx.cell a4
     have b0:=hx.cell b0
     have b1:=hx.cell b1
     have b2:=hx.cell b2
     have b3:=hx.cell b3
     have b4:=hx.cell b4
     refine reg.want_yes rfl rfl rfl s75 rfl ?_
     change Oper.wp _ _ ra w' _ _
     refine reg.wp_value (v:=.slice (some ⟨g,off,none⟩) N co) (w':=w') ?_ ⟨_,rfl,reg.Ext.refl _,rfl⟩
     intro ρ rc rf rg re
     rw [re] at s1 s75
     simp [execOp,go_sem,rc,rf,rg,s1,s75] <;> first | omega | rfl | decide
    ·-- 36: slot 81:=Op.move t9
     intro ra w' hx hs
     have s9:ra.eval (.tmp 9) = .int .i64 t:=hs.1
     have s75:ra.eval (.tmp 75) = .bool true:=hs.2.1
     clear hs
     have x0:=hx.cell x0
     have y0:=hx.cell y0
     have y1:=hx.cell y1
     have y3:=hx.cell y3
     have a0:=hx.cell a0
     have a1:=hx.cell a1
     have a2:=hx.cell a2
     have a3:=hx.cell a3
     have a4:=hx.cell a4
     have b0:=hx.cell b0
     have b1:=hx.cell b1
     have b2:=hx.cell b2
     have b3:=hx.cell b3
     have b4:=hx.cell b4
     refine reg.want_yes rfl rfl rfl s75 rfl ?_
     change Oper.wp _ _ ra w' _ _
     refine reg.wp_value (v:=.int .i64 t) (w':=w') ?_ ⟨_,rfl,reg.Ext.refl _,rfl⟩
     intro ρ rc rf rg re
     rw [re] at s9 s75
     simp [execOp,go_sem,rc,rf,rg,s9,s75] <;> first | omega | rfl | decide
    ·-- 37: slot 82:=Op.binOp BinOp.add 3 t81 (const (1:i64)) 3
     intro ra w' hx hs
     have s81:ra.eval (.tmp 81) = .int .i64 t:=hs.1
     have s75:ra.eval (.tmp 75) = .bool true:=hs.2.1
     clear hs
     have x0:=hx.cell x0
     have y0:=hx.cell y0
     have y1:=hx.cell y1
     have y3:=hx.cell y3
     have a0:=hx.cell a0
     have a1:=hx.cell a1
     have a2:=hx.cell a2
     have a3:=hx.cell a3
     have a4:=hx.cell a4
     have b0:=hx.cell b0
     have b1:=hx.cell b1
     have b2:=hx.cell b2
     have b3:=hx.cell b3
     have b4:=hx.cell b4
     refine reg.want_yes rfl rfl rfl s75 rfl ?_
     change Oper.wp _ _ ra w' _ _
     refine reg.wp_value (v:=.int .i64 ((t + 1:Nat):Int)) (w':=w') ?_ ⟨_,rfl,reg.Ext.refl _,rfl⟩
     intro ρ rc rf rg re
     rw [re] at s81 s75
     simp [execOp,go_sem,rc,rf,rg,s81,s75,hw1] <;> first | omega | rfl | decide
    ·-- 38: slot 83:=Op.slice 39 t80 (some t82) none none
     intro ra w' hx hs
     have s80:ra.eval (.tmp 80) = .slice (some ⟨g,off,none⟩) N co:=hs.1
     have s82:ra.eval (.tmp 82) = .int .i64 ((t + 1:Nat):Int):=hs.2.1
     have s75:ra.eval (.tmp 75) = .bool true:=hs.2.2.1
     clear hs
     have x0:=hx.cell x0
     have y0:=hx.cell y0
     have y1:=hx.cell y1
     have y3:=hx.cell y3
     have a0:=hx.cell a0
     have a1:=hx.cell a1
     have a2:=hx.cell a2
     have a3:=hx.cell a3
     have a4:=hx.cell a4
     have b0:=hx.cell b0
     have b1:=hx.cell b1
     have b2:=hx.cell b2
     have b3:=hx.cell b3
     have b4:=hx.cell b4
     refine reg.want_yes rfl rfl rfl s75 rfl ?_
     change Oper.wp _ _ ra w' _ _
     refine reg.wp_value (v:=.slice A (N - (t + 1)) (co - (t + 1))) (w':=w') ?_ ⟨_,rfl,reg.Ext.refl _,rfl⟩
     intro ρ rc rf rg re
     rw [re] at s80 s82 s75
     simp [execOp,go_sem,rc,rf,rg,s80,s82,s75,htN,hA,ht0] <;> first | omega | rfl | decide
    ·-- 39: slot 84:=Op.move t2
     intro ra w' hx hs
     have s2:ra.eval (.tmp 2) = .int .i64 n:=hs.1
     have s75:ra.eval (.tmp 75) = .bool true:=hs.2.1
     clear hs
     have x0:=hx.cell x0
     have y0:=hx.cell y0
     have y1:=hx.cell y1
     have y3:=hx.cell y3
     have a0:=hx.cell a0
     have a1:=hx.cell a1
     have a2:=hx.cell a2
     have a3:=hx.cell a3
     have a4:=hx.cell a4
     have b0:=hx.cell b0
     have b1:=hx.cell b1
     have b2:=hx.cell b2
     have b3:=hx.cell b3
     have b4:=hx.cell b4
     refine reg.want_yes rfl rfl rfl s75 rfl ?_
     change Oper.wp _ _ ra w' _ _
     refine reg.wp_value (v:=.int .i64 n) (w':=w') ?_ ⟨_,rfl,reg.Ext.refl _,rfl⟩
     intro ρ rc rf rg re
     rw [re] at s2 s75
     simp [execOp,go_sem,rc,rf,rg,s2,s75] <;> first | omega | rfl | decide
    ·-- 40: slot 85:=Op.move t9
     intro ra w' hx hs
     have s9:ra.eval (.tmp 9) = .int .i64 t:=hs.1
     have s75:ra.eval (.tmp 75) = .bool true:=hs.2.1
     clear hs
     have x0:=hx.cell x0
     have y0:=hx.cell y0
     have y1:=hx.cell y1
     have y3:=hx.cell y3
     have a0:=hx.cell a0
     have a1:=hx.cell a1
     have a2:=hx.cell a2
     have a3:=hx.cell a3
     have a4:=hx.cell a4
     have b0:=hx.cell b0
     have b1:=hx.cell b1
     have b2:=hx.cell b2
     have b3:=hx.cell b3
     have b4:=hx.cell b4
     refine reg.want_yes rfl rfl rfl s75 rfl ?_
     change Oper.wp _ _ ra w' _ _
     refine reg.wp_value (v:=.int .i64 t) (w':=w') ?_ ⟨_,rfl,reg.Ext.refl _,rfl⟩
     intro ρ rc rf rg re
     rw [re] at s9 s75
     simp [execOp,go_sem,rc,rf,rg,s9,s75] <;> first | omega | rfl | decide
    ·-- 41: slot 86:=Op.binOp BinOp.add 3 t84 t85 3
     intro ra w' hx hs
     have s84:ra.eval (.tmp 84) = .int .i64 n:=hs.1
     have s85:ra.eval (.tmp 85) = .int .i64 t:=hs.2.1
     have s75:ra.eval (.tmp 75) = .bool true:=hs.2.2.1
     clear hs
     have x0:=hx.cell x0
     have y0:=hx.cell y0
     have y1:=hx.cell y1
     have y3:=hx.cell y3
     have a0:=hx.cell a0
     have a1:=hx.cell a1
     have a2:=hx.cell a2
     have a3:=hx.cell a3
     have a4:=hx.cell a4
     have b0:=hx.cell b0
     have b1:=hx.cell b1
     have b2:=hx.cell b2
     have b3:=hx.cell b3
     have b4:=hx.cell b4
     refine reg.want_yes rfl rfl rfl s75 rfl ?_
     change Oper.wp _ _ ra w' _ _
     refine reg.wp_value (v:=.int .i64 ((n + t:Nat):Int)) (w':=w') ?_ ⟨_,rfl,reg.Ext.refl _,rfl⟩
     intro ρ rc rf rg re
     rw [re] at s84 s85 s75
     simp [execOp,go_sem,rc,rf,rg,s84,s85,s75,hw2] <;> first | omega | rfl | decide
    ·-- 42: slot 87:=Op.binOp BinOp.add 3 t86 (const (1:i64)) 3
     intro ra w' hx hs
     have s86:ra.eval (.tmp 86) = .int .i64 ((n + t:Nat):Int):=hs.1
     have s75:ra.eval (.tmp 75) = .bool true:=hs.2.1
     clear hs
     have x0:=hx.cell x0
     have y0:=hx.cell y0
     have y1:=hx.cell y1
     have y3:=hx.cell y3
     have a0:=hx.cell a0
     have a1:=hx.cell a1
     have a2:=hx.cell a2
     have a3:=hx.cell a3
     have a4:=hx.cell a4
     have b0:=hx.cell b0
     have b1:=hx.cell b1
     have b2:=hx.cell b2
     have b3:=hx.cell b3
     have b4:=hx.cell b4
     refine reg.want_yes rfl rfl rfl s75 rfl ?_
     change Oper.wp _ _ ra w' _ _
     refine reg.wp_value (v:=.int .i64 ((n + t + 1:Nat):Int)) (w':=w') ?_ ⟨_,rfl,reg.Ext.refl _,rfl⟩
     intro ρ rc rf rg re
     rw [re] at s86 s75
     simp [execOp,go_sem,rc,rf,rg,s86,s75,hw3] <;> first | omega | rfl | decide
    ·-- 43: slot 88:=Op.move t3
     intro ra w' hx hs
     have s3:ra.eval (.tmp 3) = .map (some b):=hs.1
     have s75:ra.eval (.tmp 75) = .bool true:=hs.2.1
     clear hs
     have x0:=hx.cell x0
     have y0:=hx.cell y0
     have y1:=hx.cell y1
     have y3:=hx.cell y3
     have a0:=hx.cell a0
     have a1:=hx.cell a1
     have a2:=hx.cell a2
     have a3:=hx.cell a3
     have a4:=hx.cell a4
     have b0:=hx.cell b0
     have b1:=hx.cell b1
     have b2:=hx.cell b2
     have b3:=hx.cell b3
     have b4:=hx.cell b4
     refine reg.want_yes rfl rfl rfl s75 rfl ?_
     change Oper.wp _ _ ra w' _ _
     refine reg.wp_value (v:=.map (some b)) (w':=w') ?_ ⟨_,rfl,reg.Ext.refl _,rfl⟩
     intro ρ rc rf rg re
     rw [re] at s3 s75
     simp [execOp,go_sem,rc,rf,rg,s3,s75] <;> first | omega | rfl | decide
    ·-- 44: slot 89:=Op.call { value (Operand.func 30),args := #[t79,t83,t87,t88],argTypes := #[61,39,3,70] }
     intro ra w' hx hs
     have s79:ra.eval (.tmp 79) = ndV xr c2:=hs.1
     have s83:ra.eval (.tmp 83) = .slice A (N - (t + 1)) (co - (t + 1)):=hs.2.1
     have s87:ra.eval (.tmp 87) = .int .i64 ((n + t + 1:Nat):Int):=hs.2.2.1
     have s88:ra.eval (.tmp 88) = .map (some b):=hs.2.2.2.1
     have s75:ra.eval (.tmp 75) = .bool true:=hs.2.2.2.2.1
     clear hs
     have x0:=hx.cell x0
     have y0:=hx.cell y0
     have y1:=hx.cell y1
     have y3:=hx.cell y3
     have a0:=hx.cell a0
     have a1:=hx.cell a1
     have a2:=hx.cell a2
     have a3:=hx.cell a3
     have a4:=hx.cell a4
     have b0:=hx.cell b0
     have b1:=hx.cell b1
     have b2:=hx.cell b2
     have b3:=hx.cell b3
     have b4:=hx.cell b4
     refine reg.want_yes rfl rfl rfl s75 rfl ?_
     change Oper.wp _ _ ra w' _ _
     refine reg.wp_call (f:=30) (args := #[ndV xr c2,.slice A (N - (t + 1)) (co - (t + 1)),.int .i64 ((n + t + 1:Nat):Int),.map (some b)]) (w':=w') ?_ ((HCR.out w' (ext_below hx)).mono ?_)
     ·intro ρ rc rf rg re
      rw [re] at s79 s83 s87 s88 s75
      simp [execOp,go_sem,rc,rf,rg,s79,s83,s87,s88,s75] <;> first | omega | rfl | decide
     ·rintro e w2 ⟨rfl,hb⟩
      exact ⟨_,rfl,_,rfl,hb,rfl⟩
    ·-- 45: slot 90:=Op.pick t75 t89 (const (Value.bool false))
     intro ra w' hx hs
     have s75:ra.eval (.tmp 75) = .bool true:=hs.1
     have s89:ra.eval (.tmp 89) = .bool true:=hs.2.1
     clear hs
     have x0:=hx.cell x0
     have y0:=hx.cell y0
     have y1:=hx.cell y1
     have y3:=hx.cell y3
     have a0:=hx.cell a0
     have a1:=hx.cell a1
     have a2:=hx.cell a2
     have a3:=hx.cell a3
     have a4:=hx.cell a4
     have b0:=hx.cell b0
     have b1:=hx.cell b1
     have b2:=hx.cell b2
     have b3:=hx.cell b3
     have b4:=hx.cell b4
     change Oper.wp _ _ ra w' _ _
     refine reg.wp_value (v:=.bool true) (w':=w') ?_ ⟨_,rfl,reg.Ext.refl _,rfl⟩
     intro ρ rc rf rg re
     rw [re] at s75 s89
     simp [execOp,go_sem,rc,rf,rg,s75,s89] <;> first | omega | rfl | decide
    ·-- 46: slot 8:=Op.assign t90
     intro ra w' hx hs
     have s90:ra.eval (.tmp 90) = .bool true:=hs.1
     clear hs
     have x0:=hx.cell x0
     have y0:=hx.cell y0
     have y1:=hx.cell y1
     have y3:=hx.cell y3
     have a0:=hx.cell a0
     have a1:=hx.cell a1
     have a2:=hx.cell a2
     have a3:=hx.cell a3
     have a4:=hx.cell a4
     have b0:=hx.cell b0
     have b1:=hx.cell b1
     have b2:=hx.cell b2
     have b3:=hx.cell b3
     have b4:=hx.cell b4
     change Oper.wp _ _ ra w' _ _
     refine reg.wp_value (v:=.bool true) (w':=w') ?_ ⟨_,rfl,reg.Ext.refl _,rfl⟩
     intro ρ rc rf rg re
     rw [re] at s90
     simp [execOp,go_sem,rc,rf,rg,s90] <;> first | omega | rfl | decide
   intro rV w6 hx6 hf
   have ve0:rV 0 = .pointer (some ⟨w.heap.size,0,none⟩):=hf 0 (by decide)
   have ve1:rV 1 = .int .i64 18:=hf 1 (by decide)
   have ve2:rV 2 = .bool true:=hf 2 (by decide)
   have ve3:rV 3 = .bool true:=hf 3 (by decide)
   have ve4:rV 4 = .pointer (some ⟨w.heap.size,1,none⟩):=hf 4 (by decide)
   have ve5:rV 5 = .string ⟨#[sg p]⟩:=hf 5 (by decide)
   have ve6:rV 6 = .slice (some ⟨g,off,none⟩) N co:=hf 6 (by decide)
   have ve7:rV 7 = .int .i64 t:=hf 7 (by decide)
   have ve8:rV 8 = .pointer (some ⟨g,off + t,none⟩):=hf 8 (by decide)
   have ve9:rV 9 = .string ⟨#[sg p]⟩:=hf 9 (by decide)
   have ve10:rV 10 = .bool true:=hf 10 (by decide)
   have ve11:rV 11 = .bool true:=hf 11 (by decide)
   have ve12:rV 12 = .bool true:=hf 12 (by decide)
   have ve13:rV 13 = .pointer (some ⟨w.heap.size,3,none⟩):=hf 13 (by decide)
   have ve14:rV 14 = .slice (some ⟨gk1,0,none⟩) 2 cv:=hf 14 (by decide)
   have ve15:rV 15 = .int .i64 2:=hf 15 (by decide)
   have ve16:rV 16 = .bool true:=hf 16 (by decide)
   have ve17:rV 17 = .bool true:=hf 17 (by decide)
   have ve18:rV 18 = .bool true:=hf 18 (by decide)
   have ve19:rV 19 = .pointer (some ⟨w.heap.size,3,none⟩):=hf 19 (by decide)
   have ve20:rV 20 = .slice (some ⟨gk1,0,none⟩) 2 cv:=hf 20 (by decide)
   have ve21:rV 21 = .pointer (some ⟨gk1,0,none⟩):=hf 21 (by decide)
   have ve22:rV 22 = ndV xl c1:=hf 22 (by decide)
   have ve23:rV 23 = .slice (some ⟨g,off,none⟩) N co:=hf 23 (by decide)
   have ve24:rV 24 = .int .i64 t:=hf 24 (by decide)
   have ve25:rV 25 = .slice (some ⟨g,off,none⟩) t co:=hf 25 (by decide)
   have ve26:rV 26 = .int .i64 n:=hf 26 (by decide)
   have ve27:rV 27 = .map (some b):=hf 27 (by decide)
   have ve28:rV 28 = .bool true:=hf 28 (by decide)
   have ve29:rV 29 = .bool true:=hf 29 (by decide)
   have ve30:rV 30 = .bool true:=hf 30 (by decide)
   have ve31:rV 31 = .pointer (some ⟨w.heap.size,3,none⟩):=hf 31 (by decide)
   have ve32:rV 32 = .slice (some ⟨gk1,0,none⟩) 2 cv:=hf 32 (by decide)
   have ve33:rV 33 = .pointer (some ⟨gk1,5,none⟩):=hf 33 (by decide)
   have ve34:rV 34 = ndV xr c2:=hf 34 (by decide)
   have ve35:rV 35 = .slice (some ⟨g,off,none⟩) N co:=hf 35 (by decide)
   have ve36:rV 36 = .int .i64 t:=hf 36 (by decide)
   have ve37:rV 37 = .int .i64 ((t + 1:Nat):Int):=hf 37 (by decide)
   have ve38:rV 38 = .slice A (N - (t + 1)) (co - (t + 1)):=hf 38 (by decide)
   have ve39:rV 39 = .int .i64 n:=hf 39 (by decide)
   have ve40:rV 40 = .int .i64 t:=hf 40 (by decide)
   have ve41:rV 41 = .int .i64 ((n + t:Nat):Int):=hf 41 (by decide)
   have ve42:rV 42 = .int .i64 ((n + t + 1:Nat):Int):=hf 42 (by decide)
   have ve43:rV 43 = .map (some b):=hf 43 (by decide)
   have ve44:rV 44 = .bool true:=hf 44 (by decide)
   have ve45:rV 45 = .bool true:=hf 45 (by decide)
   have ve46:rV 46 = .bool true:=hf 46 (by decide)
   clear hf
   simp only [List.zipIdx_cons,List.zipIdx_nil,List.foldl_cons,List.foldl_nil,Act.put,Nat.reduceAdd,List.setIfInBounds_toArray,List.set_cons_succ,List.set_cons_zero,ve0,ve1,ve2,ve3,ve4,ve5,ve6,ve7,ve8,ve9,ve10,ve11,ve12,ve13,ve14,ve15,ve16,ve17,ve18,ve19,ve20,ve21,ve22,ve23,ve24,ve25,ve26,ve27,ve28,ve29,ve30,ve31,ve32,ve33,ve34,ve35,ve36,ve37,ve38,ve39,ve40,ve41,ve42,ve43,ve44,ve45,ve46]
   clear ve0 ve1 ve2 ve3 ve4 ve5 ve6 ve7 ve8 ve9 ve10 ve11 ve12 ve13 ve14 ve15 ve16 ve17 ve18 ve19 ve20 ve21 ve22 ve23 ve24 ve25 ve26 ve27 ve28 ve29 ve30 ve31 ve32 ve33 ve34 ve35 ve36 ve37 ve38 ve39 ve40 ve41 ve42 ve43 ve44 ve45 ve46
   clear rV
   have HJ6:=Lib.hid (HJ.out.below (ext_below hx6))
   clear hx6
   go_wp2_with fail
   go_ret
   exact ⟨rfl,HJ6.out.bel⟩
end Go.Proofs.YtmfpmandkhiknaaGreatDoor.qar
