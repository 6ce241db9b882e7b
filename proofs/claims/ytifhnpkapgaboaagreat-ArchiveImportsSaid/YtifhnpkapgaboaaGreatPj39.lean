/-
  Proved: what the program's DecodeImage does. Conditions: as each theorem says.
  Proved: what the program's DecodeImage and EncodeImage do. Conditions: as each theorem says.
  Proved: oriellaw13.ArchiveFaults returns true. Conditions: as each theorem says.
-/
import Derived.Test.YtifhnpkapgaboaaGreatPj38
import Derived.Test.YtifhnpkapgaboaaGreatPj27
import Derived.Test.YtifhnpkapgaboaaGreatPj26
set_option linter.unusedVariables false
set_option linter.unusedSimpArgs false
namespace Go.Proofs.YtifhnpkapgaboaaGreat.arch
open Go.RowKit
open heap
open maps (MapB)
open path (sv str_size)
open fld (Fld FldP applyF tur_new)
set_option maxRecDepth 100000
theorem Ground_none (A:Option Addr) (c:Nat) (w:World):Calls Tryz.prog 28 #[.slice A 0 c] w fun e w'=>e = .returned (PP (w.heap.size + 2)) ∧ FldP w' (w.heap.size + 2) w.heap.size (w.heap.size + 1) F0 ∧ Below w.heap.size w w':=by
 have hmm := @run_makeMap_plain Tryz.prog
 go_enter Tryz.func28,Tryz.ntmps28
 go_wp2_with fail
 have HF:=Lib.hid (blk_new ((w.alloc (.map #[] 0)).alloc (.map #[] 0)) (.cells #[.map (some w.heap.size),.map (some (w.heap.size + 1))] 119 (0,0)))
 have HM1:Hid (MapB (((w.alloc (.map #[] 0)).alloc (.map #[] 0)).alloc (.cells #[.map (some w.heap.size),.map (some (w.heap.size + 1))] 119 (0,0))) w.heap.size []):=((MapB.new w).kept (fld.blk_old' (by simp) _)).kept (fld.blk_old' (by simp;omega) _)
 have HM2:Hid (MapB (((w.alloc (.map #[] 0)).alloc (.map #[] 0)).alloc (.cells #[.map (some w.heap.size),.map (some (w.heap.size + 1))] 119 (0,0))) (w.alloc (.map #[] 0)).heap.size []):=(MapB.new (w.alloc (.map #[] 0))).kept (fld.blk_old' (by simp) _)
 have HB:Hid (Below w.heap.size w (((w.alloc (.map #[] 0)).alloc (.map #[] 0)).alloc (.cells #[.map (some w.heap.size),.map (some (w.heap.size + 1))] 119 (0,0)))):=(((Below.refl _ _).alloc (Nat.le_refl _) _).alloc (by simp) _).alloc (by simp;omega) _
 simp only [World.size_alloc] at HF HM2
 generalize ((w.alloc (.map #[] 0)).alloc (.map #[] 0)).alloc (.cells #[.map (some w.heap.size),.map (some (w.heap.size + 1))] 119 (0,0)) = w1 at *
 go_loopw [12] (fun v12 wr=>wr = w1 ∧ v12 = .int .i64 0) (fun _ _=>0)
 case atStart=>exact ⟨rfl,rfl⟩
 case round =>
  obtain ⟨rfl,rfl⟩:=hrel
  go_wp2_with fail
  go_ret
  exact ⟨rfl,⟨HF.out,HM1.out,HM2.out,by omega⟩,HB.out⟩
theorem layG_le {s:Nm}:∀ (f a:Nat) (es:List Ent) (F:Fld) (r:List Ent × Fld) (b:Nat),layG s f a es F = .ok (r,b) → b ≤ s.length
 | 0,a,es,F,r,b,h=>by rw [layG] at h;cases h
 | f + 1,a,es,F,r,b,h=>by
  rw [layG] at h
  by_cases h1:s.length < a + 1
  ·rw [if_pos h1] at h;cases h
  rw [if_neg h1] at h
  by_cases h2:(s.getD a 0).toNat = 0
  ·rw [if_pos h2] at h
   by_cases h3:128 < F.nodes.length
   ·rw [if_pos h3] at h;cases h
   rw [if_neg h3] at h
   cases h
   omega
  rw [if_neg h2] at h
  by_cases h3:5 < (s.getD a 0).toNat
  ·rw [if_pos h3] at h;cases h
  rw [if_neg h3] at h
  by_cases h4:256 ≤ es.length
  ·rw [if_pos h4] at h;cases h
  rw [if_neg h4] at h
  cases he:entG s (s.getD a 0).toNat (a + 1) es F with
  | error p=>rw [he] at h;cases h
  | ok x =>
   obtain ⟨⟨e,F'⟩,b'⟩:=x
   rw [he] at h
   exact layG_le f b' (es ++ [e]) F' r b h
theorem layerG_le {s:Nm} {a b:Nat} {F:Fld} {r:List Ent × Fld} (h:layerG s a F = .ok (r,b)):b ≤ s.length:=by
 unfold layerG at h
 split at h
 ·cases h
 ·exact layG_le _ _ _ _ _ _ h
set_option maxHeartbeats 8000000 in
theorem decodeI_any (q:Nat) (s:Nm) (w:World) (h:w.heap[q]? = some (RdO s 0)) (hs:s.length ≤ 65536):Calls Tryz.prog 41 #[PP q] w (ImP GIm q s (imgG s) w):=by
 have hql:=blk_lt h
 obtain ⟨R,hR⟩:∃ R,imgG s = R:=⟨_,rfl⟩
 rw [hR]
 unfold imgG at hR
 have HR:=Lib.hid hR
 clear hR
 have h1:=blk_old h (.cells #[.slice none 0 0] 24 (0,0))
 have HM:=Lib.hid (mark_any q s mkI 0 _ h1 (Nat.zero_le _) (by omega) (by decide))
 have HI:=Lib.hid (blk_new w (.cells #[.slice none 0 0] 24 (0,0)))
 have HT:Hid (Turned [q] w (w.alloc (.cells #[.slice none 0 0] 24 (0,0)))):=(Turned.refl _ _).alloc _
 clear h1 h
 go_enter Tryz.func41,Tryz.ntmps41
 go_wp2_with fail
 change Calls _ _ #[_,sv mkI] _ _
 cases hpr:mkI.isPrefixOf (s.drop 0) with
 | false =>
  rw [show markD s mkI 0 = .error (0,1301) from if_neg (by rw [hpr];decide)] at HM HR
  refine HM.out.mono ?_;rintro e w1 ⟨rfl,ht⟩
  exact ⟨rfl,by rw [← HR.out];exact ⟨rfl,HT.out.trans ht⟩⟩
 | true =>
 rw [show markD s mkI 0 = .ok ((),3) from if_pos hpr] at HM HR
 have h3:3 ≤ s.length:=by have:=mark_len hpr;simp [mkI] at this;omega
 clear hpr
 simp only at HR
 refine HM.out.mono ?_;rintro e w2 ⟨rfl,hq2,ht2⟩
 have HI2:=Lib.hid (ht2.kept HI.out (by simp;omega))
 have HT2:=Lib.hid (HT.out.trans ht2)
 have c1:=blk_cell hq2 1
 have ql:=blk_lt hq2
 simp only [List.getElem?_toArray,List.getElem?_cons_zero,List.getElem?_cons_succ] at c1
 by_cases h4:s.length < 3 + 1
 ·have HN:=Lib.hid (number_any q s 3 1 w2 hq2 h3 (by omega) (.inl rfl))
  rw [show numD s 3 1 = .error (s.length,1300) from if_pos h4] at HN HR
  clear h4
  go_wp2_with fail
  refine HN.out.mono ?_;rintro e w3 ⟨rfl,ht⟩
  exact ⟨rfl,by rw [← HR.out];exact ⟨rfl,HT2.out.trans ht⟩⟩
 have HN:=Lib.hid (number_any q s 3 1 w2 hq2 h3 (by omega) (.inl rfl))
 rw [show numD s 3 1 = .ok ((s.getD 3 0).toNat,4) from if_neg h4] at HN HR
 simp only at HR
 generalize (s.getD 3 0).toNat = m at *
 have h4':4 ≤ s.length:=by omega
 clear ht2 HM HI HT hq2 h4
 go_wp2_with fail
 refine HN.out.mono ?_;rintro e w3 ⟨rfl,hq3,ht3⟩
 have HI3:=Lib.hid (ht3.kept HI2.out (by simp;omega))
 have HT3:=Lib.hid (HT2.out.trans ht3)
 have HQ:=Lib.hid hq3
 clear ht3 hq3 HN HI2 HT2 c1 ql
 by_cases h5:12 < m
 ·rw [if_pos h5] at HR
  have d5:decide ((12:Int) < (m:Int)) = true:=decide_eq_true (by omega)
  clear h5
  go_wp2_with fail
  refine (fail_yes 3 1309 _).mono ?_;rintro e w' ⟨rfl,rfl⟩
  exact ⟨rfl,by rw [← HR.out];exact ⟨rfl,HT3.out⟩⟩
 rw [if_neg h5] at HR
 have d5:decide ((12:Int) < (m:Int)) = false:=decide_eq_false (by omega)
 have hm12:m ≤ 12:=by omega
 clear h5
 go_wp2_with fail
 refine (fail_no 3 1309 _).mono ?_;rintro e w' ⟨rfl,rfl⟩
 clear d5
 go_wp2_with fail
 refine (Ground_none none 0 w3).mono ?_;rintro e w4 ⟨rfl,hfl,hb⟩
 have hle:w.heap.size + 1 ≤ w3.heap.size:=blk_lt HI3.out
 have HD4:Hid (DI w q (w3.heap.size + 2) w3.heap.size (w3.heap.size + 1) s 4 [] F0 (.slice none 0 0) [] w4):=
  ⟨blk_below HQ.out hb,blk_below HI3.out hb,LRow.nil _ _,hfl,HT3.out.trans (Turned.of_below hb),hql,by omega,by omega,by omega,h4'⟩
 clear hb HI3 HQ HT3 hfl
 generalize w3.heap.size + 2 = f at *
 generalize w3.heap.size + 1 = kn at *
 generalize w3.heap.size = mn at *
 go_wp2_with fail
 go_loopg [20] m (fun kk v20 wr=>∃ (a:Nat) (ls:List (List Ent)) (F:Fld) (v:Value) (vs:List Value),kk + ls.length = m ∧ v20 = .int .i64 ls.length ∧ Hid (DI w q f mn kn s a ls F v vs wr) ∧ Hid (laysG s kk a ls F = R))
 case atStart=>exact ⟨4,[],F0,_,_,by simp,rfl,HD4,HR⟩
 case round =>
  clear HD4 HR
  obtain ⟨a,ls,F,v,vs,hkl,rfl,HD,HR⟩:=hrel
  obtain ⟨A,g0,c,rfl,hlc,hcm,hA,-⟩:=HD.out.row.slice
  clear hA
  cases gk with
  | zero =>
   have HR2:=HR.out
   rw [laysG] at HR2
   have d6:decide ((ls.length:Int) < (m:Int)) = false:=decide_eq_false (by omega)
   have c2:=blk_cell HD.out.ib 0
   have f2:=blk_free HD.out.ib 0
   have l2:=blk_lt HD.out.ib
   simp only [List.getElem?_toArray,List.getElem?_cons_zero] at c2
   go_wp2_with fail
   have k2:=blk_cell (blk_set HD.out.ib 0 (.slice A ls.length c)) 0
   simp only [List.setIfInBounds_toArray,List.set_cons_zero,List.getElem?_toArray,List.getElem?_cons_zero] at k2
   refine bodyPost_ret (v:=.agg #[.slice A ls.length c]) (by simp [results,Tryz.results41,go_sem,k2]) rfl ?_
   rw [← HR2]
   exact ⟨_,rfl,⟨vs,(HD.out.row.low ((Turned.refl [w.heap.size] _).setCell (by simp) _) (by simp)).base (by omega)⟩,(blk_other (by omega) 0 _).trans HD.out.rd,tur_set HD.out.tur (Nat.le_refl _) _⟩
  | succ gk =>
   have HR2:=HR.out
   rw [laysG] at HR2
   have HL:=Lib.hid HR2
   clear HR2 HR
   have d6:decide ((ls.length:Int) < (m:Int)) = true:=decide_eq_true (by omega)
   have HF:=Lib.hid HD.out.far
   have e1:=HD.out.ql
   have e2:=HD.out.lf
   have e3:=HD.out.lm
   have e4:=HD.out.lk
   have e5:=HD.out.fld.fm
   have e6:=HD.out.fld.fk
   have e7:=HD.out.fld.ne
   have hal:=HD.out.al
   have hvm:∀ g ∈ (Value.slice A ls.length c).ownBlock.toList,w.heap.size + 1 ≤ g ∧ g < wr.heap.size ∧ g ≠ f ∧ g ≠ mn ∧ g ≠ kn:=HF.out _ (List.mem_cons_self ..)
   have FQ:∀ j,j ≠ 4 → q ∉ imH q mn kn w.heap.size (.slice A ls.length c) j:=fun j hj hm=>by
    rcases imH_mem hm with ⟨k1,k2⟩ | ⟨k1,k2⟩ | ⟨k1,k2⟩
    ·exact hj k1
    ·have:=(hvm _ k2).1;omega
    ·omega
   have FF:∀ j,j ≠ 4 → f ∉ imH q mn kn w.heap.size (.slice A ls.length c) j:=fun j hj hm=>by
    rcases imH_mem hm with ⟨k1,k2⟩ | ⟨k1,k2⟩ | ⟨k1,k2⟩
    ·exact hj k1
    ·exact (hvm _ k2).2.2.1 rfl
    ·omega
   have FM:∀ j,j ≠ 4 → mn ∉ imH q mn kn w.heap.size (.slice A ls.length c) j:=fun j hj hm=>by
    rcases imH_mem hm with ⟨k1,k2⟩ | ⟨k1,k2⟩ | ⟨k1,k2⟩
    ·exact hj k1
    ·exact (hvm _ k2).2.2.2.1 rfl
    ·omega
   have FK:∀ j,j ≠ 4 → kn ∉ imH q mn kn w.heap.size (.slice A ls.length c) j:=fun j hj hm=>by
    rcases imH_mem hm with ⟨k1,k2⟩ | ⟨k1,k2⟩ | ⟨k1,k2⟩
    ·exact hj k1
    ·exact (hvm _ k2).2.2.2.2 rfl
    ·omega
   have FB:∀ j,j ≠ 8 → w.heap.size ∉ imH q mn kn w.heap.size (.slice A ls.length c) j:=fun j hj hm=>by
    rcases imH_mem hm with ⟨k1,k2⟩ | ⟨k1,k2⟩ | ⟨k1,k2⟩
    ·omega
    ·have:=(hvm _ k2).1;omega
    ·exact hj k1
   have FV:∀ j,j ≠ 6 → ∀ u ∈ Value.slice A ls.length c :: vs,∀ g ∈ u.ownBlock.toList,g ∉ imH q mn kn w.heap.size (.slice A ls.length c) j:=fun j hj u hu g hg hm=>by
    obtain ⟨g1,g2,g3,g4,g5⟩:=HF.out u hu g hg
    rcases imH_mem hm with ⟨k1,k2⟩ | ⟨k1,k2⟩ | ⟨k1,k2⟩
    ·omega
    ·exact hj k1
    ·omega
   have FN:∀ j g,wr.heap.size ≤ g → mn < wr.heap.size → kn < wr.heap.size → g ∉ imH q mn kn w.heap.size (.slice A ls.length c) j:=fun j g hgl hm1 hk1 hm=>by
    have e8:=blk_lt HD.out.rd
    have e9:=blk_lt HD.out.ib
    rcases imH_mem hm with ⟨k1,k2⟩ | ⟨k1,k2⟩ | ⟨k1,k2⟩
    ·omega
    ·have:=(hvm _ k2).2.1;omega
    ·omega
   have hml:=HD.out.fld.nodes.lt
   have hkl2:=HD.out.fld.kids.lt
   have hbl:=blk_lt HD.out.ib
   have hll:ls.length ≤ 5864062014800:=by omega
   go_upto_region 8 with fail
   cases hen:layerG s a F with
   | error p =>
    have HD2:Hid ((.error p:Except Flt (List (List Ent) × Nat)) = R):=by
     have:=HL.out
     rw [hen] at this
     exact this
    refine reg.region_eachG (by kernel_rfl) ((fun rj w1 w2=>heap.Turned (imH q mn kn w.heap.size (.slice A ls.length c) rj) w1 w2)) (fun w'=>Turned (q :: mn :: kn :: w.heap.size :: (Value.slice A ls.length c).ownBlock.toList) wr w') (fun ri v w'=>match ri with
      | 0=>v = .pointer (some ⟨w.heap.size,0,none⟩)
      | 1=>v = .slice A ls.length c
      | 2=>v = PP q
      | 3=>v = PP f
      | 4=>v = v ∧ False
      | 5=>v = v ∧ False
      | 6=>v = v ∧ False
      | 7=>v = .pointer (some ⟨w.heap.size,0,none⟩)
      | 8=>v = v ∧ False
      | _=>True) (fun rk w'=>match rk with
      | 4=>w'.heap[q]? = some (RdO s a) ∧ FldP w' f mn kn F
      | 6=>LRow w' (w.heap.size + 1) (.slice A ls.length c) ls vs
      | 8=>w'.heap[w.heap.size]? = some (.cells #[.slice A ls.length c] 24 (0,0))
      | _=>True) ?_ ?_ ?_ ?_ ?_ (by kernel_rfl) ?_ ?_
    ·exact (Turned.refl _ _).drew
    ·
     intro k
     split <;> first | trivial | (first | exact ⟨HD.out.rd,HD.out.fld.turned (Turned.refl [] _).drew (by simp) (by simp) (by simp)⟩ | exact HD.out.row.low (Turned.refl [] _).drew (by simp) | exact HD.out.ib)
    ·
     intro j w1 w2 h hx
     exact h.trans (hx.mono (fun x hm=>imH_sub hm))
    ·
     intro j i v w1 w2 hij hj hr h hx
     rcases i with _|_|_|_|_|_|_|_|_|i
     ·exact h
     ·exact h
     ·exact h
     ·exact h
     ·exact h
     ·exact h
     ·exact h
     ·exact h
     ·exact (reg.last_no (by kernel_rfl) hij hj hr).elim
     ·trivial
    ·
     intro j k w1 w2 hkj h hx
     split at h <;> first | exact h | exact ⟨hx.kept h.1 (FQ _ hkj.symm),h.2.turned hx (FF _ hkj.symm) (FM _ hkj.symm) (FK _ hkj.symm)⟩ | exact LRow.turned h hx (FV _ hkj.symm) | exact hx.kept h (FB _ hkj.symm)
    ·
     refine ⟨?_,?_,?_,?_,?_,?_,?_,?_,?_,trivial⟩
     ·-- 0: slot 22:=Op.fieldAddr 24 t2 0
      intro ra w' hx hg hs
      have s2:ra.eval (.tmp 2) = .pointer (some ⟨w.heap.size,0,none⟩):=hs.1
      clear hs
      change Oper.wp _ _ ra w' _ _
      refine reg.wp_value (v:=.pointer (some ⟨w.heap.size,0,none⟩)) (w':=w') ?_ ⟨_,rfl,heap.Turned.refl _ _,rfl⟩
      intro ρ rc rf rg re
      rw [re] at s2
      simp [execOp,go_sem,rc,rf,rg,s2] <;> first | omega | rfl | decide
     ·-- 1: slot 23:=Op.load 22 t22
      intro ra w' hx hg hs
      have s22:ra.eval (.tmp 22) = .pointer (some ⟨w.heap.size,0,none⟩):=hs.1
      clear hs
      change Oper.wp _ _ ra w' _ _
      have hc0:=blk_cell (hg 8 rfl) 0
      refine reg.wp_value (v:=.slice A ls.length c) (w':=w') ?_ ⟨_,rfl,heap.Turned.refl _ _,rfl⟩
      intro ρ rc rf rg re
      rw [re] at s22
      simp [execOp,go_sem,rc,rf,rg,s22,hc0] <;> first | omega | rfl | decide
     ·-- 2: slot 24:=Op.move t0
      intro ra w' hx hg hs
      have s0:ra.eval (.tmp 0) = PP q:=hs.1
      clear hs
      change Oper.wp _ _ ra w' _ _
      refine reg.wp_value (v:=PP q) (w':=w') ?_ ⟨_,rfl,heap.Turned.refl _ _,rfl⟩
      intro ρ rc rf rg re
      rw [re] at s0
      simp [execOp,go_sem,rc,rf,rg,s0] <;> first | omega | rfl | decide
     ·-- 3: slot 25:=Op.move t5
      intro ra w' hx hg hs
      have s5:ra.eval (.tmp 5) = PP f:=hs.1
      clear hs
      change Oper.wp _ _ ra w' _ _
      refine reg.wp_value (v:=PP f) (w':=w') ?_ ⟨_,rfl,heap.Turned.refl _ _,rfl⟩
      intro ρ rc rf rg re
      rw [re] at s5
      simp [execOp,go_sem,rc,rf,rg,s5] <;> first | omega | rfl | decide
     ·-- 4: slot 26:=Op.call { value (Operand.func 45),args := #[t24,t25],argTypes := #[83,66] }
      intro ra w' hx hg hs
      have s24:ra.eval (.tmp 24) = PP q:=hs.1
      have s25:ra.eval (.tmp 25) = PP f:=hs.2.1
      have hdef:ra.defers = []:=hs.2.2
      clear hs
      change Oper.wp _ _ ra w' _ _
      have HE:=layerG_any q f mn kn F s a w' (hg 4 rfl).1 (hg 4 rfl).2 hal hs
      rw [hen] at HE
      refine wp_fall (f:=45) (args := #[PP q,PP f]) (w':=w') ?_ (HE.mono ?_)
      ·intro ρ rc rf rg re
       rw [re] at s24 s25
       simp [execOp,go_sem,rc,rf,rg,s24,s25] <;> first | omega | rfl | decide
      rintro e w3 ⟨rfl,ht⟩
      exact ⟨_,rfl,hdef,by rw [← HD2.out];exact ⟨rfl,HD.out.tur2 (hx.trans (ht.mono (by simp)))⟩⟩
     ·-- 5: slot 27:=Op.buildSlice 22 1 #[(0,t26)]
      intro ra w' hx hg hs
      have s26:(ra.eval (.tmp 26)) = (ra.eval (.tmp 26)) ∧ False:=hs.1
      clear hs
      change Oper.wp _ _ ra w' _ _
      exact s26.2.elim
     ·-- 6: slot 28:=Op.call { builtin append,args := #[t23,t27],argTypes := #[22,22] }
      intro ra w' hx hg hs
      have s23:ra.eval (.tmp 23) = .slice A ls.length c:=hs.1
      have s27:(ra.eval (.tmp 27)) = (ra.eval (.tmp 27)) ∧ False:=hs.2.1
      clear hs
      change Oper.wp _ _ ra w' _ _
      exact s27.2.elim
     ·-- 7: slot 29:=Op.fieldAddr 24 t2 0
      intro ra w' hx hg hs
      have s2:ra.eval (.tmp 2) = .pointer (some ⟨w.heap.size,0,none⟩):=hs.1
      clear hs
      change Oper.wp _ _ ra w' _ _
      refine reg.wp_value (v:=.pointer (some ⟨w.heap.size,0,none⟩)) (w':=w') ?_ ⟨_,rfl,heap.Turned.refl _ _,rfl⟩
      intro ρ rc rf rg re
      rw [re] at s2
      simp [execOp,go_sem,rc,rf,rg,s2] <;> first | omega | rfl | decide
     ·-- 8: slot None:=Op.store 22 t29 t28
      intro ra w' hx hg hs
      have s29:ra.eval (.tmp 29) = .pointer (some ⟨w.heap.size,0,none⟩):=hs.1
      have s28:(ra.eval (.tmp 28)) = (ra.eval (.tmp 28)) ∧ False:=hs.2.1
      clear hs
      change Oper.wp _ _ ra w' _ _
      exact s28.2.elim
    intro rV w6 hx6 hf
    have ve0:rV 0 = .pointer (some ⟨w.heap.size,0,none⟩):=hf 0 (by decide)
    have ve1:rV 1 = .slice A ls.length c:=hf 1 (by decide)
    have ve2:rV 2 = PP q:=hf 2 (by decide)
    have ve3:rV 3 = PP f:=hf 3 (by decide)
    have ve4:=hf 4 (by decide)
    have ve5:=hf 5 (by decide)
    have ve6:=hf 6 (by decide)
    have ve7:rV 7 = .pointer (some ⟨w.heap.size,0,none⟩):=hf 7 (by decide)
    have ve8:=hf 8 (by decide)
    clear hf
    simp only [List.zipIdx_cons,List.zipIdx_nil,List.foldl_cons,List.foldl_nil,Act.put,Nat.reduceAdd,List.setIfInBounds_toArray,List.set_cons_succ,List.set_cons_zero,ve0,ve1,ve2,ve3,ve7]
    clear ve0 ve1 ve2 ve3 ve7
    generalize rV 4 = v4 at *
    generalize rV 5 = v5 at *
    generalize rV 6 = v6 at *
    generalize rV 8 = v8 at *
    clear rV
    exact ve8.2.elim
   | ok r =>
    obtain ⟨⟨es,F2⟩,b2⟩:=r
    have hle:=layerG_le hen
    have HD2:Hid (laysG s gk b2 (ls ++ [es]) F2 = R):=by
     have:=HL.out
     rw [hen] at this
     exact this
    refine reg.region_eachG (by kernel_rfl) ((fun rj w1 w2=>heap.Turned (imH q mn kn w.heap.size (.slice A ls.length c) rj) w1 w2)) (fun w'=>Turned (q :: mn :: kn :: w.heap.size :: (Value.slice A ls.length c).ownBlock.toList) wr w') (fun ri v w'=>match ri with
      | 0=>v = .pointer (some ⟨w.heap.size,0,none⟩)
      | 1=>v = .slice A ls.length c
      | 2=>v = PP q
      | 3=>v = PP f
      | 4=>(∃ u,v = .agg #[u] ∧ ERow w' wr.heap.size u es) ∧ w'.heap[q]? = some (RdO s b2) ∧ FldP w' f mn kn F2
      | 5=>∃ h1 u,v = .slice (some ⟨h1,0,none⟩) 1 1 ∧ wr.heap.size ≤ h1 ∧ w'.heap[h1]? = some (.cells #[u] 44 (0,0)) ∧ ERow w' wr.heap.size u es
      | 6=>∃ g cap u,v = .slice (some ⟨g,0,none⟩) (ls.length + 1) cap ∧ LRow w' (w.heap.size + 1) v (ls ++ [es]) (vs ++ [u]) ∧ ∀ x ∈ v :: (vs ++ [u]),∀ g ∈ x.ownBlock.toList,g ≠ w.heap.size
      | 7=>v = .pointer (some ⟨w.heap.size,0,none⟩)
      | 8=>∃ x vs',w'.heap[w.heap.size]? = some (.cells #[x] 24 (0,0)) ∧ LRow w' (w.heap.size + 1) x (ls ++ [es]) vs'
      | _=>True) (fun rk w'=>match rk with
      | 4=>w'.heap[q]? = some (RdO s a) ∧ FldP w' f mn kn F
      | 6=>LRow w' (w.heap.size + 1) (.slice A ls.length c) ls vs
      | 8=>w'.heap[w.heap.size]? = some (.cells #[.slice A ls.length c] 24 (0,0))
      | _=>True) ?_ ?_ ?_ ?_ ?_ (by kernel_rfl) ?_ ?_
    ·exact (Turned.refl _ _).drew
    ·
     intro k
     split <;> first | trivial | (first | exact ⟨HD.out.rd,HD.out.fld.turned (Turned.refl [] _).drew (by simp) (by simp) (by simp)⟩ | exact HD.out.row.low (Turned.refl [] _).drew (by simp) | exact HD.out.ib)
    ·
     intro j w1 w2 h hx
     exact h.trans (hx.mono (fun x hm=>imH_sub hm))
    ·
     intro j i v w1 w2 hij hj hr h hx
     rcases i with _|_|_|_|_|_|_|_|_|i
     ·exact h
     ·exact h
     ·exact h
     ·exact h
     ·(obtain ⟨⟨u,k1,k2⟩,k3,k4⟩:=h;exact ⟨⟨u,k1,k2.turned hx (fun g hg'=>FN _ g (k2.lt g hg').1 hml hkl2)⟩,hx.kept k3 (FQ _ hij.symm),k4.turned hx (FF _ hij.symm) (FM _ hij.symm) (FK _ hij.symm)⟩)
     ·(obtain ⟨h1,u,k1,k2,k3,k4⟩:=h;exact ⟨h1,u,k1,k2,hx.kept k3 (FN _ h1 k2 hml hkl2),k4.turned hx (fun g hg'=>FN _ g (k4.lt g hg').1 hml hkl2)⟩)
     ·(obtain ⟨g,cap,u,k1,k2,k3⟩:=h;exact ⟨g,cap,u,k1,k2.turned hx (fun x hx' g' hg' hm=>by rcases imH_mem hm with ⟨m1,m2⟩ | ⟨m1,m2⟩ | ⟨m1,m2⟩ <;> first | (subst m1;exact Bool.noConfusion (hr.symm.trans (show reg.reaches _ _ 6 4 = true by kernel_rfl))) | exact hij m1.symm | exact k3 x hx' g' hg' m2),k3⟩)
     ·exact h
     ·exact (reg.last_no (by kernel_rfl) hij hj hr).elim
     ·trivial
    ·
     intro j k w1 w2 hkj h hx
     split at h <;> first | exact h | exact ⟨hx.kept h.1 (FQ _ hkj.symm),h.2.turned hx (FF _ hkj.symm) (FM _ hkj.symm) (FK _ hkj.symm)⟩ | exact LRow.turned h hx (FV _ hkj.symm) | exact hx.kept h (FB _ hkj.symm)
    ·
     refine ⟨?_,?_,?_,?_,?_,?_,?_,?_,?_,trivial⟩
     ·-- 0: slot 22:=Op.fieldAddr 24 t2 0
      intro ra w' hx hg hs
      have s2:ra.eval (.tmp 2) = .pointer (some ⟨w.heap.size,0,none⟩):=hs.1
      clear hs
      change Oper.wp _ _ ra w' _ _
      refine reg.wp_value (v:=.pointer (some ⟨w.heap.size,0,none⟩)) (w':=w') ?_ ⟨_,rfl,heap.Turned.refl _ _,rfl⟩
      intro ρ rc rf rg re
      rw [re] at s2
      simp [execOp,go_sem,rc,rf,rg,s2] <;> first | omega | rfl | decide
     ·-- 1: slot 23:=Op.load 22 t22
      intro ra w' hx hg hs
      have s22:ra.eval (.tmp 22) = .pointer (some ⟨w.heap.size,0,none⟩):=hs.1
      clear hs
      change Oper.wp _ _ ra w' _ _
      have hc0:=blk_cell (hg 8 rfl) 0
      refine reg.wp_value (v:=.slice A ls.length c) (w':=w') ?_ ⟨_,rfl,heap.Turned.refl _ _,rfl⟩
      intro ρ rc rf rg re
      rw [re] at s22
      simp [execOp,go_sem,rc,rf,rg,s22,hc0] <;> first | omega | rfl | decide
     ·-- 2: slot 24:=Op.move t0
      intro ra w' hx hg hs
      have s0:ra.eval (.tmp 0) = PP q:=hs.1
      clear hs
      change Oper.wp _ _ ra w' _ _
      refine reg.wp_value (v:=PP q) (w':=w') ?_ ⟨_,rfl,heap.Turned.refl _ _,rfl⟩
      intro ρ rc rf rg re
      rw [re] at s0
      simp [execOp,go_sem,rc,rf,rg,s0] <;> first | omega | rfl | decide
     ·-- 3: slot 25:=Op.move t5
      intro ra w' hx hg hs
      have s5:ra.eval (.tmp 5) = PP f:=hs.1
      clear hs
      change Oper.wp _ _ ra w' _ _
      refine reg.wp_value (v:=PP f) (w':=w') ?_ ⟨_,rfl,heap.Turned.refl _ _,rfl⟩
      intro ρ rc rf rg re
      rw [re] at s5
      simp [execOp,go_sem,rc,rf,rg,s5] <;> first | omega | rfl | decide
     ·-- 4: slot 26:=Op.call { value (Operand.func 45),args := #[t24,t25],argTypes := #[83,66] }
      intro ra w' hx hg hs
      have s24:ra.eval (.tmp 24) = PP q:=hs.1
      have s25:ra.eval (.tmp 25) = PP f:=hs.2.1
      clear hs
      change Oper.wp _ _ ra w' _ _
      have HE:=layerG_any q f mn kn F s a w' (hg 4 rfl).1 (hg 4 rfl).2 hal hs
      rw [hen] at HE
      refine reg.wp_call (f:=45) (args := #[PP q,PP f]) (w':=w') ?_ (HE.mono ?_)
      ·intro ρ rc rf rg re
       rw [re] at s24 s25
       simp [execOp,go_sem,rc,rf,rg,s24,s25] <;> first | omega | rfl | decide
      rintro e w3 ⟨u,rfl,hr,hq,hf,ht⟩
      exact ⟨_,rfl,_,rfl,ht,⟨u,rfl,ERow.base hr hx.size⟩,hq,hf⟩
     ·-- 5: slot 27:=Op.buildSlice 22 1 #[(0,t26)]
      intro ra w' hx hg hs
      have s26:(∃ u,(ra.eval (.tmp 26)) = .agg #[u] ∧ ERow w' wr.heap.size u es) ∧ w'.heap[q]? = some (RdO s b2) ∧ FldP w' f mn kn F2:=hs.1
      clear hs
      change Oper.wp _ _ ra w' _ _
      obtain ⟨⟨u,hv,hr⟩,hq,hf⟩:=s26
      obtain ⟨Au,gu,cu,rfl,-⟩:=hr.slice
      refine reg.wp_value (v:=.slice (some ⟨w'.heap.size,0,none⟩) 1 1) (w':=w'.alloc (.cells #[.slice Au es.length cu] 44 (0,0))) ?_ ⟨_,rfl,(heap.Turned.refl _ _).alloc _,_,_,rfl,hx.size,blk_new _ _,hr.below ((Below.refl _ _).alloc (Nat.le_refl _) _)⟩
      intro ρ rc rf rg re
      rw [re] at hv
      simp [execOp,go_sem,rc,rf,rg,hv]
     ·-- 6: slot 28:=Op.call { builtin append,args := #[t23,t27],argTypes := #[22,22] }
      intro ra w' hx hg hs
      have s23:ra.eval (.tmp 23) = .slice A ls.length c:=hs.1
      have s27:∃ h1 u,(ra.eval (.tmp 27)) = .slice (some ⟨h1,0,none⟩) 1 1 ∧ wr.heap.size ≤ h1 ∧ w'.heap[h1]? = some (.cells #[u] 44 (0,0)) ∧ ERow w' wr.heap.size u es:=hs.2.1
      clear hs
      change Oper.wp _ _ ra w' _ _
      obtain ⟨h1,u,hv,hh1,hh2,hh3⟩:=s27
      obtain ⟨g,cap,w3,hrun,hrow,ht⟩:=(hg 6 rfl).app hh2 (ERow.base hh3 (by omega)) hll (by have:=hx.size;omega)
      refine reg.wp_value (v:=.slice (some ⟨g,0,none⟩) (ls.length + 1) cap) (w':=w3) (reg.runs_append rfl rfl s23 hv hrun) ⟨_,rfl,ht,g,cap,u,rfl,hrow,fun x hx' g' hg' e=>by have:=(hrow.lt x hx' g' hg').1;omega⟩
     ·-- 7: slot 29:=Op.fieldAddr 24 t2 0
      intro ra w' hx hg hs
      have s2:ra.eval (.tmp 2) = .pointer (some ⟨w.heap.size,0,none⟩):=hs.1
      clear hs
      change Oper.wp _ _ ra w' _ _
      refine reg.wp_value (v:=.pointer (some ⟨w.heap.size,0,none⟩)) (w':=w') ?_ ⟨_,rfl,heap.Turned.refl _ _,rfl⟩
      intro ρ rc rf rg re
      rw [re] at s2
      simp [execOp,go_sem,rc,rf,rg,s2] <;> first | omega | rfl | decide
     ·-- 8: slot None:=Op.store 22 t29 t28
      intro ra w' hx hg hs
      have s29:ra.eval (.tmp 29) = .pointer (some ⟨w.heap.size,0,none⟩):=hs.1
      have s28:∃ g cap u,(ra.eval (.tmp 28)) = .slice (some ⟨g,0,none⟩) (ls.length + 1) cap ∧ LRow w' (w.heap.size + 1) (ra.eval (.tmp 28)) (ls ++ [es]) (vs ++ [u]) ∧ ∀ x ∈ (ra.eval (.tmp 28)) :: (vs ++ [u]),∀ g ∈ x.ownBlock.toList,g ≠ w.heap.size:=hs.2.1
      clear hs
      change Oper.wp _ _ ra w' _ _
      have hbk:=hg 8 rfl
      have hc0:=blk_cell hbk 0
      have hf0:=blk_free hbk 0
      obtain ⟨g,cap,u,hv,hrow,-⟩:=s28
      refine reg.wp_skip (w':=w'.setCell ⟨w.heap.size,0,none⟩ (ra.eval (.tmp 28))) ?_ ⟨_,rfl,(heap.Turned.refl _ _).setCell (by simp [imH]) _,_,_,blk_set hbk 0 _,hrow.low ((heap.Turned.refl [w.heap.size] _).setCell (by simp) _) (by simp)⟩
      rw [hv]
      intro ρ rc rf rg re
      rw [re] at hv s29
      simp [execOp,go_sem,hv,s29,hc0,hf0]
    intro rV w6 hx6 hf
    have ve0:rV 0 = .pointer (some ⟨w.heap.size,0,none⟩):=hf 0 (by decide)
    have ve1:rV 1 = .slice A ls.length c:=hf 1 (by decide)
    have ve2:rV 2 = PP q:=hf 2 (by decide)
    have ve3:rV 3 = PP f:=hf 3 (by decide)
    have ve4:=hf 4 (by decide)
    have ve5:=hf 5 (by decide)
    have ve6:=hf 6 (by decide)
    have ve7:rV 7 = .pointer (some ⟨w.heap.size,0,none⟩):=hf 7 (by decide)
    have ve8:=hf 8 (by decide)
    clear hf
    simp only [List.zipIdx_cons,List.zipIdx_nil,List.foldl_cons,List.foldl_nil,Act.put,Nat.reduceAdd,List.setIfInBounds_toArray,List.set_cons_succ,List.set_cons_zero,ve0,ve1,ve2,ve3,ve7]
    clear ve0 ve1 ve2 ve3 ve7
    generalize rV 4 = v4 at *
    generalize rV 5 = v5 at *
    generalize rV 6 = v6 at *
    generalize rV 8 = v8 at *
    clear rV
    obtain ⟨x,vs',hu1,hu2⟩:=ve8
    have HD3:Hid (DI w q f mn kn s b2 (ls ++ [es]) F2 x vs' w6):=⟨ve4.2.1,hu1,hu2,ve4.2.2,HD.out.tur2 hx6,e1,e2,e3,e4,hle⟩
    clear hx6 hu1 hu2 ve4 ve5 ve6
    go_wp2_with fail
    go_roundg gk
    case rel=>exact ⟨b2,ls ++ [es],F2,x,vs',by simp;omega,by simp,HD3,HD2⟩
    case measure=>omega
end Go.Proofs.YtifhnpkapgaboaaGreat.arch
namespace Go.Proofs.YtifhnpkapgaboaaGreat.arch
open Go.RowKit
open heap
open path (sv str_size)
open fld (Fld FldP applyF ApP Apply_any Many_any tur_new)
set_option maxRecDepth 100000
theorem DecodeImage_any (s:Nm) (w:World) (hs:s.length ≤ 1000000000000000000):Calls Tryz.prog 13 #[sv s] w (DecG GIm (decI s) w):=by
 have HR:=Lib.hid (readI_any GIm GIm.keeps s (imgG s) (w.alloc (.cells #[.slice none 0 0] 24 (0,0))) hs (fun q W h hl=>decodeI_any q s W h hl))
 obtain ⟨R,hR⟩:∃ R,decI s = R:=⟨_,rfl⟩
 rw [show readG s (imgG s) = decI s from rfl,hR] at HR
 rw [hR]
 clear hR
 have hmf:∀ (fn:Fn) (first cap:Array Value) (w:World),(Instr.makeFunc fn first cap).run Tryz.prog w = .ok (.func fn first cap) w:=fun _ _ _ _=>rfl
 have HN:=Lib.hid (blk_new w (.cells #[.slice none 0 0] 24 (0,0)))
 have HB:Hid (Below w.heap.size w (w.alloc (.cells #[.slice none 0 0] 24 (0,0)))):=(Below.refl _ _).alloc (Nat.le_refl _) _
 go_enter Tryz.func13,Tryz.ntmps13
 go_wp2_with fail
 refine (HR.out).mono ?_
 intro e w2 hp
 cases R with
 | error p =>
  obtain ⟨rfl,hb⟩:=hp
  have HN2:=blk_below HN.out hb
  have HB2:=Lib.hid (HB.out.trans (hb.mono (by simp)))
  clear hb HB HR
  have c2:=blk_cell HN2 0
  have f2:=blk_free HN2 0
  have l2:=blk_lt HN2
  simp only [List.getElem?_toArray,List.getElem?_cons_zero] at c2
  go_wp2_with fail
  have k2:=blk_cell (blk_set HN2 0 (.slice none 0 0)) 0
  simp only [List.setIfInBounds_toArray,List.set_cons_zero,List.getElem?_toArray,List.getElem?_cons_zero] at k2
  refine bodyPost_ret (v:=.tuple #[.agg #[.slice none 0 0],.int .i64 p.1,.int .i64 p.2]) (by simp [results,Tryz.results13,go_sem,k2]) rfl ?_
  exact ⟨rfl,HB2.out.setCell (by simp) _⟩
 | ok ls =>
  obtain ⟨v,rfl,⟨vs,hrow⟩,hb⟩:=hp
  obtain ⟨A,gb,c,rfl,-⟩:=hrow.slice
  have HN2:=blk_below HN.out hb
  have HB2:=Lib.hid (HB.out.trans (hb.mono (by simp)))
  have HW:=Lib.hid hrow
  clear hb HB HR hrow
  have c2:=blk_cell HN2 0
  have f2:=blk_free HN2 0
  have l2:=blk_lt HN2
  simp only [List.getElem?_toArray,List.getElem?_cons_zero] at c2
  go_upto_region 6 with fail
  have k2:=blk_cell (blk_set HN2 0 (.slice A ls.length c)) 0
  simp only [List.setIfInBounds_toArray,List.set_cons_zero,List.getElem?_toArray,List.getElem?_cons_zero] at k2
  refine bodyPost_ret (v:=.tuple #[.agg #[.slice A ls.length c],.int .i64 0,.int .i64 0]) (by simp [results,Tryz.results13,go_sem,k2]) rfl ?_
  exact ⟨_,rfl,⟨vs,(HW.out.low ((Turned.refl [w.heap.size] _).setCell (by simp) _) (by simp)).base (by simp)⟩,HB2.out.setCell (by simp) _⟩
end Go.Proofs.YtifhnpkapgaboaaGreat.arch
namespace Go.Proofs.YtifhnpkapgaboaaGreat.arch
open Go.RowKit
open heap
open path (sv str_size)
set_option maxRecDepth 100000
end Go.Proofs.YtifhnpkapgaboaaGreat.arch
