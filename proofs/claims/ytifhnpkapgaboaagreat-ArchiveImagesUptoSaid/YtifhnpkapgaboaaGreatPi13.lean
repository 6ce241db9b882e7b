/-
  Proved: what the document's two, stream, Encode give. Conditions: as each theorem says.
-/
import Derived.Test.YtifhnpkapgaboaaGreatPi11
import Derived.Test.YtifhnpkapgaboaaGreatPi12
import Derived.Test.YtifhnpkapgaboaaGreatPi1
set_option linter.unusedVariables false
set_option linter.unusedSimpArgs false
namespace Go.Proofs.YtifhnpkapgaboaaGreat.arch
open Go.RowKit
open heap
open path (sv str_size cleanB belowB)
set_option maxRecDepth 100000
theorem app_str (a b:Nm):(⟨a.toArray⟩:ByteArray) ++ ⟨b.toArray⟩ = ⟨(a ++ b).toArray⟩:=by
 apply ByteArray.ext
 simp [ByteArray.data_append]
theorem ofNat_mod (n:Nat):UInt8.ofNat (n % 256) = UInt8.ofNat n:=by
 apply UInt8.toNat_inj.1
 simp
theorem le_two (n:Nat) (h:n < 65536):num.leS n 2 = ⟨(le2 n).toArray⟩ ∧ num.leE n 2 = 0:=by
 have hg:num.leGood n 2 = true:=(num.leGood_iff n 2).2 ⟨by omega,by omega,by show n < 256 ^ 2;omega⟩
 obtain ⟨h1,h2⟩:=num.le_yes hg
 refine ⟨h1.trans ?_,h2⟩
 have e0:((n:Int) % 256).toNat = n % 256:=by omega
 have e1:((n:Int) / 256 % 256).toNat = n / 256 % 256:=by omega
 simp [strOfNums,num.bytesTo,num.byteAt,List.range_succ,le2,e0,e1,ofNat_mod]
theorem two_any (n:Nat) (w:World) (h:n < 65536):Calls Tryz.prog 76 #[.int .i64 n] w fun e w'=>e = .returned (.string ⟨(le2 n).toArray⟩) ∧ Below w.heap.size w w':=by
 have HL:=Lib.hid (fun W=>num.rLe_any n 2 W (by unfold num.U64;omega))
 rw [(le_two n h).1,(le_two n h).2] at HL
 have hw:IntKind.u64.wrap (n:Int) = (n:Int):=by rw [IntKind.wrap_u64];omega
 go_enter Tryz.func76,Tryz.ntmps76
 go_wp2_with fail
 refine (HL.out _).mono ?_;rintro e w1 ⟨rfl,hb⟩
 have HB:=Lib.hid hb
 clear hb HL
 go_wp2_with fail
 go_ret
 exact ⟨rfl,HB.out⟩
theorem formG_ok (es:List Ent):∀ (f i:Nat),(formG es f i).2 = 0 → ∀ j x,i ≤ j → j < i + f → es[j]? = some x → entF (es.take j) x = 0
 | 0,i,_,j,x,h1,h2,_=>by omega
 | f + 1,i,h,j,x,h1,h2,hx=>by
  rw [formG] at h
  by_cases he:entF (es.take i) (es.getD i e0) = 0
  ·rw [if_pos he] at h
   by_cases hij:j = i
   ·subst hij
    rw [List.getD_eq_getElem?_getD,hx] at he
    exact he
   ·exact formG_ok es f (i + 1) h j x (by omega) (by omega) hx
  ·rw [if_neg he] at h
   exact absurd h he
theorem form_ok {es:List Ent} (h:(formL es).2 = 0):es.length ≤ 256 ∧ ∀ x ∈ es,1 ≤ x.kind ∧ x.kind ≤ 5 ∧ x.path ≠ [] ∧ x.path.length ≤ 140 ∧ 0 ≤ x.mode ∧ x.mode ≤ 511 ∧ x.data.length ≤ 1024:=by
 unfold formL at h
 split at h
 ·exact absurd h (by decide)
 ·refine ⟨by omega,fun x hx => ?_⟩
  obtain ⟨j,hj⟩:=List.getElem?_of_mem hx
  have hl:=(List.getElem?_eq_some_iff.1 hj).1
  exact ent_ok (formG_ok es es.length 0 h j x (by omega) (by omega) hj)
theorem ent_len (x:Ent) (h1:x.path.length ≤ 140) (h2:x.data.length ≤ 1024):(entS x).length ≤ 1170:=by
 unfold entS le2
 simp only [List.length_cons,List.length_append,List.length_nil]
 omega
theorem body_len (es:List Ent) (h:∀ x ∈ es,x.path.length ≤ 140 ∧ x.data.length ≤ 1024) (i:Nat) (hi:i ≤ es.length):(bodyS (es.take i)).length ≤ 1170 * i:=by
 induction i with
 | zero=>simp [bodyS]
 | succ i ih =>
  have hx:es[i]? = some es[i]:=List.getElem?_eq_getElem (by omega)
  rw [body_snoc es i _ hx,List.length_append]
  have h1:=h _ (List.mem_of_getElem? hx)
  have h2:=ent_len es[i] h1.1 h1.2
  have h3:=ih (by omega)
  omega
theorem cv2 (W:World) (g:Nat) (k n:Nat) (hk:k < 256) (hn:n < 256) (h:W.heap[g]? = some (.cells #[.int .u8 k,.int .u8 n] 5 (0,0))) :
  (convert 72 9 (.slice (some ⟨g,0,none⟩) 2 2)).run Tryz.prog W = .ok (.string ⟨([UInt8.ofNat k,UInt8.ofNat n]:List UInt8).toArray⟩) W:=by
 have hr:row.RowIs W g [UInt8.ofNat k,UInt8.ofNat n]:=by
  refine ⟨_,0,0,h,by simp,by simp,fun i hi => ?_⟩
  have e1:k % 256 = k:=by omega
  have e2:n % 256 = n:=by omega
  match i,hi with
  | 0,_=>simp [row.byteV,e1]
  | 1,_=>simp [row.byteV,e2]
 exact hr.conv 2
theorem entS_app (T:Nm) (x:Ent):((((T ++ [UInt8.ofNat x.kind.toNat,UInt8.ofNat x.path.length]) ++ x.path) ++ le2 x.mode.toNat) ++ le2 x.data.length) ++ x.data = T ++ entS x:=by
 unfold entS
 simp
set_option maxHeartbeats 4000000 in
theorem stream_any (es:List Ent) (b o c:Nat) (w:World) (h:EAt w b o es) (hc:es.length ≤ c) (hcm:c ≤ 9223372036854775807) (hf:(formL es).2 = 0) :
  Calls Tryz.prog 37 #[layV b o es.length c] w fun r w'=>r = .returned (sv (streamL es)) ∧ Below w.heap.size w w':=by
 have HB:Hid (Below w.heap.size w (w.alloc (.cells #[.slice (some ⟨b,o,none⟩) es.length c] 44 (0,0)))):=(Below.refl _ _).alloc (Nat.le_refl _) _
 have HBX:=Lib.hid (blk_new w (.cells #[.slice (some ⟨b,o,none⟩) es.length c] 44 (0,0)))
 obtain ⟨h256,hok⟩:=form_ok hf
 have HOK:=Lib.hid hok
 have HBL:=Lib.hid (body_len es (fun x hx=>⟨(hok x hx).2.2.2.1,(hok x hx).2.2.2.2.2.2⟩))
 have HE:=Lib.hid h
 clear h hf hok
 go_enter Tryz.func37,Tryz.ntmps37
 go_wp2_with fail
 change Code.wp _ _ _ _ (w.alloc (.cells #[.slice (some ⟨b,o,none⟩) es.length c] 44 (0,0)))
 generalize (w.alloc (.cells #[.slice (some ⟨b,o,none⟩) es.length c] 44 (0,0))) = w1 at *
 go_loopg [3,4] es.length (fun kk v3 v4 wr=>∃ i:Nat,i + kk = es.length ∧ v3 = .string ⟨([79,82,76] ++ bodyS (es.take i)).toArray⟩ ∧ v4 = .int .i64 i ∧ Hid (Below w1.heap.size w1 wr))
 case atStart=>exact ⟨0,by omega,by rw [List.take_zero];rfl,rfl,Below.refl _ _⟩
 case round =>
  obtain ⟨i,hik,rfl,rfl,HW⟩:=hrel
  have hq:=blk_below HBX.out HW.out
  have q0:=blk_cell hq 0
  have ql:=blk_lt hq
  simp only [List.getElem?_toArray,List.getElem?_cons_zero] at q0
  have HBw:Hid (Below w.heap.size w wr):=HB.out.trans (HW.out.mono HB.out.size)
  have hbl:=HBL.out i (by omega)
  clear hq
  by_cases hlt:i < es.length
  ·cases gk with
   | zero=>omega
   | succ gk =>
   obtain ⟨x,hx⟩:∃ x,es[i]? = some x:=⟨_,List.getElem?_eq_getElem hlt⟩
   obtain ⟨x0,x1,x2,x3⟩:=(HE.out.below HBw.out) i x hx
   have hxx:=HOK.out x (List.mem_of_getElem? hx)
   have HSN:=Lib.hid (body_snoc es i x hx)
   have hii:(i:Int) < (es.length:Int):=by omega
   obtain ⟨hk1,hk5,-,hpl,hm0,hm5,hdl⟩:=hxx
   have HNEW:=Lib.hid (blk_new wr (entO x))
   have HW2:Hid (Below w1.heap.size w1 (wr.alloc (entO x))):=HW.out.alloc HW.out.size _
   clear hx
   go_upto_region 6 with fail
   change Code.wp _ _ _ _ (wr.alloc (entO x))
   have hb5:=blk_lt HNEW.out
   generalize (wr.alloc (entO x)) = W0 at *
   generalize wr.heap.size = b5 at *
   clear x0 x1 x2 x3 q0 ql
   have p0:=blk_cell HNEW.out 0
   have p1:=blk_cell HNEW.out 1
   have p2:=blk_cell HNEW.out 2
   have p3:=blk_cell HNEW.out 3
   simp only [List.getElem?_toArray,List.getElem?_cons_zero,List.getElem?_cons_succ] at p0 p1 p2 p3
   obtain ⟨k,hk⟩:∃ k:Nat,x.kind = (k:Int):=⟨x.kind.toNat,by omega⟩
   obtain ⟨m,hm⟩:∃ m:Nat,x.mode = (m:Int):=⟨x.mode.toNat,by omega⟩
   rw [hk] at p1
   rw [hm] at p2
   have wk:IntKind.u8.wrap (k:Int) = (k:Int):=by rw [IntKind.wrap_u8];omega
   have wn:IntKind.u8.wrap (x.path.length:Int) = (x.path.length:Int):=by rw [IntKind.wrap_u8];omega
   have HCV:=Lib.hid (fun W g hg=>cv2 W g k x.path.length (by omega) (by omega) hg)
   have HT1:=Lib.hid (fun W=>two_any m W (by omega))
   have HT2:=Lib.hid (fun W=>two_any x.data.length W (by omega))
   have HJ:Hid ((((((⟨([79,82,76] ++ bodyS (es.take i)).toArray⟩:ByteArray) ++ ⟨([UInt8.ofNat k,UInt8.ofNat x.path.length]:List UInt8).toArray⟩) ++ ⟨x.path.toArray⟩) ++ ⟨(le2 m).toArray⟩) ++ ⟨(le2 x.data.length).toArray⟩) ++ ⟨x.data.toArray⟩ = ⟨([79,82,76] ++ bodyS (es.take (i + 1))).toArray⟩):=by
    unfold Hid
    rw [HSN.out,app_str,app_str,app_str,app_str,app_str]
    have:=entS_app ([79,82,76] ++ bodyS (es.take i)) x
    rw [hk,hm] at this
    simp only [Int.toNat_natCast] at this
    rw [this,List.append_assoc]
   have z0:(⟨([79,82,76] ++ bodyS (es.take i)).toArray⟩:ByteArray).size ≤ 300000:=by rw [str_size,List.length_append];simp;omega
   have z1:(⟨([UInt8.ofNat k,UInt8.ofNat x.path.length]:List UInt8).toArray⟩:ByteArray).size = 2:=by rw [str_size];rfl
   have z2:(⟨x.path.toArray⟩:ByteArray).size ≤ 140:=by rw [str_size];exact hpl
   have z3:(⟨(le2 m).toArray⟩:ByteArray).size = 2:=by rw [str_size];rfl
   have z4:(⟨(le2 x.data.length).toArray⟩:ByteArray).size = 2:=by rw [str_size];rfl
   have z5:(⟨x.data.toArray⟩:ByteArray).size ≤ 1024:=by rw [str_size];exact hdl
   have zp:((⟨x.path.toArray⟩:ByteArray).size:Int) = (x.path.length:Int):=by rw [str_size]
   have zd:((⟨x.data.toArray⟩:ByteArray).size:Int) = (x.data.length:Int):=by rw [str_size]
   clear HSN hm hk
   generalize (⟨([79,82,76] ++ bodyS (es.take i)).toArray⟩:ByteArray) = A0 at *
   generalize (⟨([UInt8.ofNat k,UInt8.ofNat x.path.length]:List UInt8).toArray⟩:ByteArray) = A1 at *
   generalize (⟨(le2 m).toArray⟩:ByteArray) = A3 at *
   generalize (⟨(le2 x.data.length).toArray⟩:ByteArray) = A4 at *
   generalize (⟨x.path.toArray⟩:ByteArray) = A2 at *
   generalize (⟨x.data.toArray⟩:ByteArray) = A5 at *
   refine reg.region_each (by kernel_rfl) reg.Ext (fun ri v w'=>match ri with
     | 0=>v = .string A0
     | 1=>v = .pointer (some ⟨b5,1,none⟩)
     | 2=>v = .int .i64 k
     | 3=>v = .int .u8 k
     | 4=>v = .pointer (some ⟨b5,0,none⟩)
     | 5=>v = .string A2
     | 6=>v = .int .i64 x.path.length
     | 7=>v = .int .u8 x.path.length
     | 8=>∃ g,v = .slice (some ⟨g,0,none⟩) 2 2 ∧ w'.heap[g]? = some (.cells #[.int .u8 k,.int .u8 x.path.length] 5 (0,0))
     | 9=>v = .string A1
     | 10=>v = .string (A0 ++ A1)
     | 11=>v = .pointer (some ⟨b5,0,none⟩)
     | 12=>v = .string A2
     | 13=>v = .string ((A0 ++ A1) ++ A2)
     | 14=>v = .pointer (some ⟨b5,2,none⟩)
     | 15=>v = .int .i64 m
     | 16=>v = .string A3
     | 17=>v = .string (((A0 ++ A1) ++ A2) ++ A3)
     | 18=>v = .pointer (some ⟨b5,3,none⟩)
     | 19=>v = .string A5
     | 20=>v = .int .i64 x.data.length
     | 21=>v = .string A4
     | 22=>v = .string ((((A0 ++ A1) ++ A2) ++ A3) ++ A4)
     | 23=>v = .pointer (some ⟨b5,3,none⟩)
     | 24=>v = .string A5
     | 25=>v = .string (((((A0 ++ A1) ++ A2) ++ A3) ++ A4) ++ A5)
     | 26=>v = .string (((((A0 ++ A1) ++ A2) ++ A3) ++ A4) ++ A5)
     | _=>True) reg.Ext.refl reg.Ext.trans ?_ (by kernel_rfl) ?_ ?_
   ·
    intro i v w1 w2 h hx
    rcases i with _|_|_|_|_|_|_|_|_|_|_|_|_|_|_|_|_|_|_|_|_|_|_|_|_|_|_|i
    ·exact h
    ·exact h
    ·exact h
    ·exact h
    ·exact h
    ·exact h
    ·exact h
    ·exact h
    ·(obtain ⟨g,h1,h2⟩:=h;exact ⟨g,h1,hx.blk h2⟩)
    ·exact h
    ·exact h
    ·exact h
    ·exact h
    ·exact h
    ·exact h
    ·exact h
    ·exact h
    ·exact h
    ·exact h
    ·exact h
    ·exact h
    ·exact h
    ·exact h
    ·exact h
    ·exact h
    ·exact h
    ·exact h
    ·trivial
   ·
    refine ⟨?_,?_,?_,?_,?_,?_,?_,?_,?_,?_,?_,?_,?_,?_,?_,?_,?_,?_,?_,?_,?_,?_,?_,?_,?_,?_,?_,trivial⟩
    ·-- 0: slot 18:=Op.move t3
     intro ra w' hx hs
     have s3:ra.eval (.tmp 3) = .string A0:=hs.1
     clear hs
     have c0:=hx.cell (a:=⟨b5,0,none⟩) p0
     have c1:=hx.cell (a:=⟨b5,1,none⟩) p1
     have c2:=hx.cell (a:=⟨b5,2,none⟩) p2
     have c3:=hx.cell (a:=⟨b5,3,none⟩) p3
     change Oper.wp _ _ ra w' _ _
     refine reg.wp_value (v:=.string A0) (w':=w') ?_ ⟨_,rfl,reg.Ext.refl _,rfl⟩
     intro ρ rc rf rg re
     rw [re] at s3
     simp [execOp,go_sem,rc,rf,rg,s3] <;> first | omega | rfl | decide
    ·-- 1: slot 19:=Op.fieldAddr 58 t5 1
     intro ra w' hx hs
     have s5:ra.eval (.tmp 5) = .pointer (some ⟨b5,0,none⟩):=hs.1
     clear hs
     have c0:=hx.cell (a:=⟨b5,0,none⟩) p0
     have c1:=hx.cell (a:=⟨b5,1,none⟩) p1
     have c2:=hx.cell (a:=⟨b5,2,none⟩) p2
     have c3:=hx.cell (a:=⟨b5,3,none⟩) p3
     change Oper.wp _ _ ra w' _ _
     refine reg.wp_value (v:=.pointer (some ⟨b5,1,none⟩)) (w':=w') ?_ ⟨_,rfl,reg.Ext.refl _,rfl⟩
     intro ρ rc rf rg re
     rw [re] at s5
     simp [execOp,go_sem,rc,rf,rg,s5] <;> first | omega | rfl | decide
    ·-- 2: slot 20:=Op.load 3 t19
     intro ra w' hx hs
     have s19:ra.eval (.tmp 19) = .pointer (some ⟨b5,1,none⟩):=hs.1
     clear hs
     have c0:=hx.cell (a:=⟨b5,0,none⟩) p0
     have c1:=hx.cell (a:=⟨b5,1,none⟩) p1
     have c2:=hx.cell (a:=⟨b5,2,none⟩) p2
     have c3:=hx.cell (a:=⟨b5,3,none⟩) p3
     change Oper.wp _ _ ra w' _ _
     refine reg.wp_value (v:=.int .i64 k) (w':=w') ?_ ⟨_,rfl,reg.Ext.refl _,rfl⟩
     intro ρ rc rf rg re
     rw [re] at s19
     simp [execOp,go_sem,rc,rf,rg,s19,c1] <;> first | omega | rfl | decide
    ·-- 3: slot 21:=Op.convert 3 5 t20
     intro ra w' hx hs
     have s20:ra.eval (.tmp 20) = .int .i64 k:=hs.1
     clear hs
     have c0:=hx.cell (a:=⟨b5,0,none⟩) p0
     have c1:=hx.cell (a:=⟨b5,1,none⟩) p1
     have c2:=hx.cell (a:=⟨b5,2,none⟩) p2
     have c3:=hx.cell (a:=⟨b5,3,none⟩) p3
     change Oper.wp _ _ ra w' _ _
     refine reg.wp_value (v:=.int .u8 k) (w':=w') ?_ ⟨_,rfl,reg.Ext.refl _,rfl⟩
     intro ρ rc rf rg re
     rw [re] at s20
     simp [execOp,go_sem,rc,rf,rg,s20,wk] <;> first | omega | rfl | decide
    ·-- 4: slot 22:=Op.fieldAddr 58 t5 0
     intro ra w' hx hs
     have s5:ra.eval (.tmp 5) = .pointer (some ⟨b5,0,none⟩):=hs.1
     clear hs
     have c0:=hx.cell (a:=⟨b5,0,none⟩) p0
     have c1:=hx.cell (a:=⟨b5,1,none⟩) p1
     have c2:=hx.cell (a:=⟨b5,2,none⟩) p2
     have c3:=hx.cell (a:=⟨b5,3,none⟩) p3
     change Oper.wp _ _ ra w' _ _
     refine reg.wp_value (v:=.pointer (some ⟨b5,0,none⟩)) (w':=w') ?_ ⟨_,rfl,reg.Ext.refl _,rfl⟩
     intro ρ rc rf rg re
     rw [re] at s5
     simp [execOp,go_sem,rc,rf,rg,s5] <;> first | omega | rfl | decide
    ·-- 5: slot 23:=Op.load 9 t22
     intro ra w' hx hs
     have s22:ra.eval (.tmp 22) = .pointer (some ⟨b5,0,none⟩):=hs.1
     clear hs
     have c0:=hx.cell (a:=⟨b5,0,none⟩) p0
     have c1:=hx.cell (a:=⟨b5,1,none⟩) p1
     have c2:=hx.cell (a:=⟨b5,2,none⟩) p2
     have c3:=hx.cell (a:=⟨b5,3,none⟩) p3
     change Oper.wp _ _ ra w' _ _
     refine reg.wp_value (v:=.string A2) (w':=w') ?_ ⟨_,rfl,reg.Ext.refl _,rfl⟩
     intro ρ rc rf rg re
     rw [re] at s22
     simp [execOp,go_sem,rc,rf,rg,s22,c0] <;> first | omega | rfl | decide
    ·-- 6: slot 24:=Op.call { builtin len,args := #[t23],argTypes := #[9] }
     intro ra w' hx hs
     have s23:ra.eval (.tmp 23) = .string A2:=hs.1
     clear hs
     have c0:=hx.cell (a:=⟨b5,0,none⟩) p0
     have c1:=hx.cell (a:=⟨b5,1,none⟩) p1
     have c2:=hx.cell (a:=⟨b5,2,none⟩) p2
     have c3:=hx.cell (a:=⟨b5,3,none⟩) p3
     change Oper.wp _ _ ra w' _ _
     refine reg.wp_value (v:=.int .i64 x.path.length) (w':=w') ?_ ⟨_,rfl,reg.Ext.refl _,rfl⟩
     intro ρ rc rf rg re
     rw [re] at s23
     simp [execOp,go_sem,rc,rf,rg,s23,zp] <;> first | omega | rfl | decide
    ·-- 7: slot 25:=Op.convert 3 5 t24
     intro ra w' hx hs
     have s24:ra.eval (.tmp 24) = .int .i64 x.path.length:=hs.1
     clear hs
     have c0:=hx.cell (a:=⟨b5,0,none⟩) p0
     have c1:=hx.cell (a:=⟨b5,1,none⟩) p1
     have c2:=hx.cell (a:=⟨b5,2,none⟩) p2
     have c3:=hx.cell (a:=⟨b5,3,none⟩) p3
     change Oper.wp _ _ ra w' _ _
     refine reg.wp_value (v:=.int .u8 x.path.length) (w':=w') ?_ ⟨_,rfl,reg.Ext.refl _,rfl⟩
     intro ρ rc rf rg re
     rw [re] at s24
     simp [execOp,go_sem,rc,rf,rg,s24,wn] <;> first | omega | rfl | decide
    ·-- 8: slot 26:=Op.buildSlice 72 2 #[(0,t21),(1,t25)]
     intro ra w' hx hs
     have s21:ra.eval (.tmp 21) = .int .u8 k:=hs.1
     have s25:ra.eval (.tmp 25) = .int .u8 x.path.length:=hs.2.1
     clear hs
     have c0:=hx.cell (a:=⟨b5,0,none⟩) p0
     have c1:=hx.cell (a:=⟨b5,1,none⟩) p1
     have c2:=hx.cell (a:=⟨b5,2,none⟩) p2
     have c3:=hx.cell (a:=⟨b5,3,none⟩) p3
     change Oper.wp _ _ ra w' _ _
     refine reg.wp_value (v:=.slice (some ⟨w'.heap.size,0,none⟩) 2 2) (w':=w'.alloc (.cells #[.int .u8 k,.int .u8 x.path.length] 5 (0,0))) ?_ ⟨_,rfl,(Below.refl _ _).alloc (Nat.le_refl _) _,_,rfl,blk_new _ _⟩
     intro ρ rc rf rg re
     rw [re] at s21 s25
     simp [execOp,go_sem,rc,rf,rg,s21,s25] <;> first | omega | rfl | decide
    ·-- 9: slot 27:=Op.convert 72 9 t26
     intro ra w' hx hs
     have s26:∃ g,(ra.eval (.tmp 26)) = .slice (some ⟨g,0,none⟩) 2 2 ∧ w'.heap[g]? = some (.cells #[.int .u8 k,.int .u8 x.path.length] 5 (0,0)):=hs.1
     clear hs
     have c0:=hx.cell (a:=⟨b5,0,none⟩) p0
     have c1:=hx.cell (a:=⟨b5,1,none⟩) p1
     have c2:=hx.cell (a:=⟨b5,2,none⟩) p2
     have c3:=hx.cell (a:=⟨b5,3,none⟩) p3
     change Oper.wp _ _ ra w' _ _
     obtain ⟨g,hg,hg2⟩:=s26
     refine reg.wp_value (v:=.string A1) (w':=w') ?_ ⟨_,rfl,reg.Ext.refl _,rfl⟩
     intro ρ rc rf rg re
     rw [re] at hg
     simp [execOp,go_sem,hg,HCV.out w' g hg2]
    ·-- 10: slot 28:=Op.binOp BinOp.add 9 t18 t27 9
     intro ra w' hx hs
     have s18:ra.eval (.tmp 18) = .string A0:=hs.1
     have s27:ra.eval (.tmp 27) = .string A1:=hs.2.1
     clear hs
     have c0:=hx.cell (a:=⟨b5,0,none⟩) p0
     have c1:=hx.cell (a:=⟨b5,1,none⟩) p1
     have c2:=hx.cell (a:=⟨b5,2,none⟩) p2
     have c3:=hx.cell (a:=⟨b5,3,none⟩) p3
     change Oper.wp _ _ ra w' _ _
     refine reg.wp_value (v:=.string (A0 ++ A1)) (w':=w') ?_ ⟨_,rfl,reg.Ext.refl _,rfl⟩
     intro ρ rc rf rg re
     rw [re] at s18 s27
     simp [execOp,go_sem,rc,rf,rg,s18,s27,z0,z1] <;> first | omega | rfl | decide
    ·-- 11: slot 29:=Op.fieldAddr 58 t5 0
     intro ra w' hx hs
     have s5:ra.eval (.tmp 5) = .pointer (some ⟨b5,0,none⟩):=hs.1
     clear hs
     have c0:=hx.cell (a:=⟨b5,0,none⟩) p0
     have c1:=hx.cell (a:=⟨b5,1,none⟩) p1
     have c2:=hx.cell (a:=⟨b5,2,none⟩) p2
     have c3:=hx.cell (a:=⟨b5,3,none⟩) p3
     change Oper.wp _ _ ra w' _ _
     refine reg.wp_value (v:=.pointer (some ⟨b5,0,none⟩)) (w':=w') ?_ ⟨_,rfl,reg.Ext.refl _,rfl⟩
     intro ρ rc rf rg re
     rw [re] at s5
     simp [execOp,go_sem,rc,rf,rg,s5] <;> first | omega | rfl | decide
    ·-- 12: slot 30:=Op.load 9 t29
     intro ra w' hx hs
     have s29:ra.eval (.tmp 29) = .pointer (some ⟨b5,0,none⟩):=hs.1
     clear hs
     have c0:=hx.cell (a:=⟨b5,0,none⟩) p0
     have c1:=hx.cell (a:=⟨b5,1,none⟩) p1
     have c2:=hx.cell (a:=⟨b5,2,none⟩) p2
     have c3:=hx.cell (a:=⟨b5,3,none⟩) p3
     change Oper.wp _ _ ra w' _ _
     refine reg.wp_value (v:=.string A2) (w':=w') ?_ ⟨_,rfl,reg.Ext.refl _,rfl⟩
     intro ρ rc rf rg re
     rw [re] at s29
     simp [execOp,go_sem,rc,rf,rg,s29,c0] <;> first | omega | rfl | decide
    ·-- 13: slot 31:=Op.binOp BinOp.add 9 t28 t30 9
     intro ra w' hx hs
     have s28:ra.eval (.tmp 28) = .string (A0 ++ A1):=hs.1
     have s30:ra.eval (.tmp 30) = .string A2:=hs.2.1
     clear hs
     have c0:=hx.cell (a:=⟨b5,0,none⟩) p0
     have c1:=hx.cell (a:=⟨b5,1,none⟩) p1
     have c2:=hx.cell (a:=⟨b5,2,none⟩) p2
     have c3:=hx.cell (a:=⟨b5,3,none⟩) p3
     change Oper.wp _ _ ra w' _ _
     refine reg.wp_value (v:=.string ((A0 ++ A1) ++ A2)) (w':=w') ?_ ⟨_,rfl,reg.Ext.refl _,rfl⟩
     intro ρ rc rf rg re
     rw [re] at s28 s30
     simp [execOp,go_sem,rc,rf,rg,s28,s30,z0,z1,z2] <;> first | omega | rfl | decide
    ·-- 14: slot 32:=Op.fieldAddr 58 t5 2
     intro ra w' hx hs
     have s5:ra.eval (.tmp 5) = .pointer (some ⟨b5,0,none⟩):=hs.1
     clear hs
     have c0:=hx.cell (a:=⟨b5,0,none⟩) p0
     have c1:=hx.cell (a:=⟨b5,1,none⟩) p1
     have c2:=hx.cell (a:=⟨b5,2,none⟩) p2
     have c3:=hx.cell (a:=⟨b5,3,none⟩) p3
     change Oper.wp _ _ ra w' _ _
     refine reg.wp_value (v:=.pointer (some ⟨b5,2,none⟩)) (w':=w') ?_ ⟨_,rfl,reg.Ext.refl _,rfl⟩
     intro ρ rc rf rg re
     rw [re] at s5
     simp [execOp,go_sem,rc,rf,rg,s5] <;> first | omega | rfl | decide
    ·-- 15: slot 33:=Op.load 3 t32
     intro ra w' hx hs
     have s32:ra.eval (.tmp 32) = .pointer (some ⟨b5,2,none⟩):=hs.1
     clear hs
     have c0:=hx.cell (a:=⟨b5,0,none⟩) p0
     have c1:=hx.cell (a:=⟨b5,1,none⟩) p1
     have c2:=hx.cell (a:=⟨b5,2,none⟩) p2
     have c3:=hx.cell (a:=⟨b5,3,none⟩) p3
     change Oper.wp _ _ ra w' _ _
     refine reg.wp_value (v:=.int .i64 m) (w':=w') ?_ ⟨_,rfl,reg.Ext.refl _,rfl⟩
     intro ρ rc rf rg re
     rw [re] at s32
     simp [execOp,go_sem,rc,rf,rg,s32,c2] <;> first | omega | rfl | decide
    ·-- 16: slot 34:=Op.call { value (Operand.func 76),args := #[t33],argTypes := #[3] }
     intro ra w' hx hs
     have s33:ra.eval (.tmp 33) = .int .i64 m:=hs.1
     clear hs
     have c0:=hx.cell (a:=⟨b5,0,none⟩) p0
     have c1:=hx.cell (a:=⟨b5,1,none⟩) p1
     have c2:=hx.cell (a:=⟨b5,2,none⟩) p2
     have c3:=hx.cell (a:=⟨b5,3,none⟩) p3
     change Oper.wp _ _ ra w' _ _
     refine reg.wp_call (f:=76) (args := #[.int .i64 m]) (w':=w') ?_ ?_
     ·intro ρ rc rf rg re
      rw [re] at s33
      simp [execOp,go_sem,rc,rf,rg,s33] <;> first | omega | rfl | decide
     refine (HT1.out _).mono ?_
     rintro e w2 ⟨rfl,hb⟩
     exact ⟨_,rfl,_,rfl,hb,rfl⟩
    ·-- 17: slot 35:=Op.binOp BinOp.add 9 t31 t34 9
     intro ra w' hx hs
     have s31:ra.eval (.tmp 31) = .string ((A0 ++ A1) ++ A2):=hs.1
     have s34:ra.eval (.tmp 34) = .string A3:=hs.2.1
     clear hs
     have c0:=hx.cell (a:=⟨b5,0,none⟩) p0
     have c1:=hx.cell (a:=⟨b5,1,none⟩) p1
     have c2:=hx.cell (a:=⟨b5,2,none⟩) p2
     have c3:=hx.cell (a:=⟨b5,3,none⟩) p3
     change Oper.wp _ _ ra w' _ _
     refine reg.wp_value (v:=.string (((A0 ++ A1) ++ A2) ++ A3)) (w':=w') ?_ ⟨_,rfl,reg.Ext.refl _,rfl⟩
     intro ρ rc rf rg re
     rw [re] at s31 s34
     simp [execOp,go_sem,rc,rf,rg,s31,s34] <;> first | omega | rfl | decide
    ·-- 18: slot 36:=Op.fieldAddr 58 t5 3
     intro ra w' hx hs
     have s5:ra.eval (.tmp 5) = .pointer (some ⟨b5,0,none⟩):=hs.1
     clear hs
     have c0:=hx.cell (a:=⟨b5,0,none⟩) p0
     have c1:=hx.cell (a:=⟨b5,1,none⟩) p1
     have c2:=hx.cell (a:=⟨b5,2,none⟩) p2
     have c3:=hx.cell (a:=⟨b5,3,none⟩) p3
     change Oper.wp _ _ ra w' _ _
     refine reg.wp_value (v:=.pointer (some ⟨b5,3,none⟩)) (w':=w') ?_ ⟨_,rfl,reg.Ext.refl _,rfl⟩
     intro ρ rc rf rg re
     rw [re] at s5
     simp [execOp,go_sem,rc,rf,rg,s5] <;> first | omega | rfl | decide
    ·-- 19: slot 37:=Op.load 9 t36
     intro ra w' hx hs
     have s36:ra.eval (.tmp 36) = .pointer (some ⟨b5,3,none⟩):=hs.1
     clear hs
     have c0:=hx.cell (a:=⟨b5,0,none⟩) p0
     have c1:=hx.cell (a:=⟨b5,1,none⟩) p1
     have c2:=hx.cell (a:=⟨b5,2,none⟩) p2
     have c3:=hx.cell (a:=⟨b5,3,none⟩) p3
     change Oper.wp _ _ ra w' _ _
     refine reg.wp_value (v:=.string A5) (w':=w') ?_ ⟨_,rfl,reg.Ext.refl _,rfl⟩
     intro ρ rc rf rg re
     rw [re] at s36
     simp [execOp,go_sem,rc,rf,rg,s36,c3] <;> first | omega | rfl | decide
    ·-- 20: slot 38:=Op.call { builtin len,args := #[t37],argTypes := #[9] }
     intro ra w' hx hs
     have s37:ra.eval (.tmp 37) = .string A5:=hs.1
     clear hs
     have c0:=hx.cell (a:=⟨b5,0,none⟩) p0
     have c1:=hx.cell (a:=⟨b5,1,none⟩) p1
     have c2:=hx.cell (a:=⟨b5,2,none⟩) p2
     have c3:=hx.cell (a:=⟨b5,3,none⟩) p3
     change Oper.wp _ _ ra w' _ _
     refine reg.wp_value (v:=.int .i64 x.data.length) (w':=w') ?_ ⟨_,rfl,reg.Ext.refl _,rfl⟩
     intro ρ rc rf rg re
     rw [re] at s37
     simp [execOp,go_sem,rc,rf,rg,s37,zd] <;> first | omega | rfl | decide
    ·-- 21: slot 39:=Op.call { value (Operand.func 76),args := #[t38],argTypes := #[3] }
     intro ra w' hx hs
     have s38:ra.eval (.tmp 38) = .int .i64 x.data.length:=hs.1
     clear hs
     have c0:=hx.cell (a:=⟨b5,0,none⟩) p0
     have c1:=hx.cell (a:=⟨b5,1,none⟩) p1
     have c2:=hx.cell (a:=⟨b5,2,none⟩) p2
     have c3:=hx.cell (a:=⟨b5,3,none⟩) p3
     change Oper.wp _ _ ra w' _ _
     refine reg.wp_call (f:=76) (args := #[.int .i64 x.data.length]) (w':=w') ?_ ?_
     ·intro ρ rc rf rg re
      rw [re] at s38
      simp [execOp,go_sem,rc,rf,rg,s38] <;> first | omega | rfl | decide
     refine (HT2.out _).mono ?_
     rintro e w2 ⟨rfl,hb⟩
     exact ⟨_,rfl,_,rfl,hb,rfl⟩
    ·-- 22: slot 40:=Op.binOp BinOp.add 9 t35 t39 9
     intro ra w' hx hs
     have s35:ra.eval (.tmp 35) = .string (((A0 ++ A1) ++ A2) ++ A3):=hs.1
     have s39:ra.eval (.tmp 39) = .string A4:=hs.2.1
     clear hs
     have c0:=hx.cell (a:=⟨b5,0,none⟩) p0
     have c1:=hx.cell (a:=⟨b5,1,none⟩) p1
     have c2:=hx.cell (a:=⟨b5,2,none⟩) p2
     have c3:=hx.cell (a:=⟨b5,3,none⟩) p3
     change Oper.wp _ _ ra w' _ _
     refine reg.wp_value (v:=.string ((((A0 ++ A1) ++ A2) ++ A3) ++ A4)) (w':=w') ?_ ⟨_,rfl,reg.Ext.refl _,rfl⟩
     intro ρ rc rf rg re
     rw [re] at s35 s39
     simp [execOp,go_sem,rc,rf,rg,s35,s39] <;> first | omega | rfl | decide
    ·-- 23: slot 41:=Op.fieldAddr 58 t5 3
     intro ra w' hx hs
     have s5:ra.eval (.tmp 5) = .pointer (some ⟨b5,0,none⟩):=hs.1
     clear hs
     have c0:=hx.cell (a:=⟨b5,0,none⟩) p0
     have c1:=hx.cell (a:=⟨b5,1,none⟩) p1
     have c2:=hx.cell (a:=⟨b5,2,none⟩) p2
     have c3:=hx.cell (a:=⟨b5,3,none⟩) p3
     change Oper.wp _ _ ra w' _ _
     refine reg.wp_value (v:=.pointer (some ⟨b5,3,none⟩)) (w':=w') ?_ ⟨_,rfl,reg.Ext.refl _,rfl⟩
     intro ρ rc rf rg re
     rw [re] at s5
     simp [execOp,go_sem,rc,rf,rg,s5] <;> first | omega | rfl | decide
    ·-- 24: slot 42:=Op.load 9 t41
     intro ra w' hx hs
     have s41:ra.eval (.tmp 41) = .pointer (some ⟨b5,3,none⟩):=hs.1
     clear hs
     have c0:=hx.cell (a:=⟨b5,0,none⟩) p0
     have c1:=hx.cell (a:=⟨b5,1,none⟩) p1
     have c2:=hx.cell (a:=⟨b5,2,none⟩) p2
     have c3:=hx.cell (a:=⟨b5,3,none⟩) p3
     change Oper.wp _ _ ra w' _ _
     refine reg.wp_value (v:=.string A5) (w':=w') ?_ ⟨_,rfl,reg.Ext.refl _,rfl⟩
     intro ρ rc rf rg re
     rw [re] at s41
     simp [execOp,go_sem,rc,rf,rg,s41,c3] <;> first | omega | rfl | decide
    ·-- 25: slot 43:=Op.binOp BinOp.add 9 t40 t42 9
     intro ra w' hx hs
     have s40:ra.eval (.tmp 40) = .string ((((A0 ++ A1) ++ A2) ++ A3) ++ A4):=hs.1
     have s42:ra.eval (.tmp 42) = .string A5:=hs.2.1
     clear hs
     have c0:=hx.cell (a:=⟨b5,0,none⟩) p0
     have c1:=hx.cell (a:=⟨b5,1,none⟩) p1
     have c2:=hx.cell (a:=⟨b5,2,none⟩) p2
     have c3:=hx.cell (a:=⟨b5,3,none⟩) p3
     change Oper.wp _ _ ra w' _ _
     refine reg.wp_value (v:=.string (((((A0 ++ A1) ++ A2) ++ A3) ++ A4) ++ A5)) (w':=w') ?_ ⟨_,rfl,reg.Ext.refl _,rfl⟩
     intro ρ rc rf rg re
     rw [re] at s40 s42
     simp [execOp,go_sem,rc,rf,rg,s40,s42] <;> first | omega | rfl | decide
    ·-- 26: slot 3:=Op.assign t43
     intro ra w' hx hs
     have s43:ra.eval (.tmp 43) = .string (((((A0 ++ A1) ++ A2) ++ A3) ++ A4) ++ A5):=hs.1
     clear hs
     have c0:=hx.cell (a:=⟨b5,0,none⟩) p0
     have c1:=hx.cell (a:=⟨b5,1,none⟩) p1
     have c2:=hx.cell (a:=⟨b5,2,none⟩) p2
     have c3:=hx.cell (a:=⟨b5,3,none⟩) p3
     change Oper.wp _ _ ra w' _ _
     refine reg.wp_value (v:=.string (((((A0 ++ A1) ++ A2) ++ A3) ++ A4) ++ A5)) (w':=w') ?_ ⟨_,rfl,reg.Ext.refl _,rfl⟩
     intro ρ rc rf rg re
     rw [re] at s43
     simp [execOp,go_sem,rc,rf,rg,s43] <;> first | omega | rfl | decide
   intro rV w2 hx hf
   have ve0:rV 0 = .string A0:=hf 0 (by decide)
   have ve1:rV 1 = .pointer (some ⟨b5,1,none⟩):=hf 1 (by decide)
   have ve2:rV 2 = .int .i64 k:=hf 2 (by decide)
   have ve3:rV 3 = .int .u8 k:=hf 3 (by decide)
   have ve4:rV 4 = .pointer (some ⟨b5,0,none⟩):=hf 4 (by decide)
   have ve5:rV 5 = .string A2:=hf 5 (by decide)
   have ve6:rV 6 = .int .i64 x.path.length:=hf 6 (by decide)
   have ve7:rV 7 = .int .u8 x.path.length:=hf 7 (by decide)
   have ve8:=hf 8 (by decide)
   have ve9:rV 9 = .string A1:=hf 9 (by decide)
   have ve10:rV 10 = .string (A0 ++ A1):=hf 10 (by decide)
   have ve11:rV 11 = .pointer (some ⟨b5,0,none⟩):=hf 11 (by decide)
   have ve12:rV 12 = .string A2:=hf 12 (by decide)
   have ve13:rV 13 = .string ((A0 ++ A1) ++ A2):=hf 13 (by decide)
   have ve14:rV 14 = .pointer (some ⟨b5,2,none⟩):=hf 14 (by decide)
   have ve15:rV 15 = .int .i64 m:=hf 15 (by decide)
   have ve16:rV 16 = .string A3:=hf 16 (by decide)
   have ve17:rV 17 = .string (((A0 ++ A1) ++ A2) ++ A3):=hf 17 (by decide)
   have ve18:rV 18 = .pointer (some ⟨b5,3,none⟩):=hf 18 (by decide)
   have ve19:rV 19 = .string A5:=hf 19 (by decide)
   have ve20:rV 20 = .int .i64 x.data.length:=hf 20 (by decide)
   have ve21:rV 21 = .string A4:=hf 21 (by decide)
   have ve22:rV 22 = .string ((((A0 ++ A1) ++ A2) ++ A3) ++ A4):=hf 22 (by decide)
   have ve23:rV 23 = .pointer (some ⟨b5,3,none⟩):=hf 23 (by decide)
   have ve24:rV 24 = .string A5:=hf 24 (by decide)
   have ve25:rV 25 = .string (((((A0 ++ A1) ++ A2) ++ A3) ++ A4) ++ A5):=hf 25 (by decide)
   have ve26:rV 26 = .string (((((A0 ++ A1) ++ A2) ++ A3) ++ A4) ++ A5):=hf 26 (by decide)
   clear hf
   simp only [List.zipIdx_cons,List.zipIdx_nil,List.foldl_cons,List.foldl_nil,Act.put,Nat.reduceAdd,List.setIfInBounds_toArray,List.set_cons_succ,List.set_cons_zero,ve0,ve1,ve2,ve3,ve4,ve5,ve6,ve7,ve9,ve10,ve11,ve12,ve13,ve14,ve15,ve16,ve17,ve18,ve19,ve20,ve21,ve22,ve23,ve24,ve25,ve26]
   clear ve0 ve1 ve2 ve3 ve4 ve5 ve6 ve7 ve9 ve10 ve11 ve12 ve13 ve14 ve15 ve16 ve17 ve18 ve19 ve20 ve21 ve22 ve23 ve24 ve25 ve26
   generalize rV 8 = v8 at *
   clear rV
   have HW3:Hid (Below w1.heap.size w1 w2):=HW2.out.trans ((Below.trans (Below.drew (Below.refl _ _)) hx).mono HW2.out.size)
   clear hx
   go_wp2_with fail
   go_roundg gk
   case rel=>exact ⟨i + 1,by omega,by rw [HJ.out],by go_num,HW3.out⟩
   case measure=>omega
  ·have hi2:i = es.length:=by omega
   subst hi2
   have HT:Hid ((⟨([79,82,76] ++ bodyS (es.take es.length)).toArray⟩:ByteArray) ++ ⟨#[0]⟩ = ⟨(streamL es).toArray⟩):=by
    unfold Hid
    rw [List.take_length,show (⟨#[0]⟩:ByteArray) = ⟨([0]:List UInt8).toArray⟩ from rfl,app_str]
    rfl
   have z0:(⟨([79,82,76] ++ bodyS (es.take es.length)).toArray⟩:ByteArray).size ≤ 300000:=by rw [str_size,List.length_append];simp at hbl ⊢;omega
   generalize (⟨([79,82,76] ++ bodyS (es.take es.length)).toArray⟩:ByteArray) = A0 at *
   go_wp2_with fail
   go_ret
   exact ⟨by rw [show sv (streamL es) = .string ⟨(streamL es).toArray⟩ from rfl,← HT.out];rfl,HBw.out⟩
end Go.Proofs.YtifhnpkapgaboaaGreat.arch
