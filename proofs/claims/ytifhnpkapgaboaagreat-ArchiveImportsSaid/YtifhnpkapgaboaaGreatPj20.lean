/-
  Proved: what the program's reader's layer does where there is no ground. Conditions: as each theorem says.
-/
import Derived.Test.YtifhnpkapgaboaaGreatPj19
set_option linter.unusedVariables false
set_option linter.unusedSimpArgs false
namespace Go.Proofs.YtifhnpkapgaboaaGreat.arch
open Go.RowKit
open heap
open path (sv str_size)
set_option maxRecDepth 100000
structure LI (w:World) (q:Nat) (s:Nm) (a:Nat) (es:List Ent) (v:Value) (W:World):Prop where
 rd:W.heap[q]? = some (RdO s a)
 lb:W.heap[w.heap.size]? = some (.cells #[v] 44 (0,0))
 row:ERow W (w.heap.size + 1) v es
 tur:Turned [q] w W
 ql:q < w.heap.size
 al:a ≤ s.length
theorem LI.vq {w W:World} {q a:Nat} {s:Nm} {es:List Ent} {v:Value} (h:LI w q s a es v W):∀ g ∈ v.ownBlock.toList,w.heap.size + 1 ≤ g ∧ g < W.heap.size:=h.row.lt
theorem LI.turn {w W W':World} {q a a':Nat} {s:Nm} {es:List Ent} {v:Value} (h:LI w q s a es v W) (hq:W'.heap[q]? = some (RdO s a')) (ht:Turned [q] W W') (ha:a' ≤ s.length):LI w q s a' es v W':=
 ⟨hq,ht.kept h.lb (by have:=h.ql;simp;omega),h.row.turned ht (fun g hg hm=>by
  have h1:=(h.vq g hg).1
  have h2:=h.ql
  have h3:g = q:=by simpa using hm
  omega),h.tur.trans ht,h.ql,ha⟩
theorem LI.below {w W W':World} {q a:Nat} {s:Nm} {es:List Ent} {v:Value} (h:LI w q s a es v W) (hb:Below W.heap.size W W'):LI w q s a es v W':=h.turn (blk_below h.rd hb) (Turned.of_below hb) h.al
def layS (q b4:Nat) (v:Value) (j:Nat):List Nat:=if j = 8 then [q] else if j = 10 then v.ownBlock.toList else if j = 12 then [b4] else []
theorem layS_mem {q b4:Nat} {v:Value} {j b:Nat} (h:b ∈ layS q b4 v j):(j = 8 ∧ b = q) ∨ (j = 10 ∧ b ∈ v.ownBlock.toList) ∨ (j = 12 ∧ b = b4):=by
 unfold layS at h
 split at h
 ·exact .inl ⟨by assumption,by simpa using h⟩
 ·split at h
  ·exact .inr (.inl ⟨by assumption,h⟩)
  ·split at h
   ·exact .inr (.inr ⟨by assumption,by simpa using h⟩)
   ·simp at h
theorem layS_sub {q b4:Nat} {v:Value} {j b:Nat} (h:b ∈ layS q b4 v j):b ∈ q :: b4 :: v.ownBlock.toList:=by
 rcases layS_mem h with ⟨_,rfl⟩ | ⟨_,hb⟩ | ⟨_,rfl⟩
 ·exact List.mem_cons_self ..
 ·exact List.mem_cons_of_mem _ (List.mem_cons_of_mem _ hb)
 ·exact List.mem_cons_of_mem _ (List.mem_cons_self ..)
theorem LI.done {w W W':World} {q a a':Nat} {s:Nm} {es es':List Ent} {v u:Value} (h:LI w q s a es v W) (ht:Turned (q :: w.heap.size :: v.ownBlock.toList) W W') (hq:W'.heap[q]? = some (RdO s a')) (hl:W'.heap[w.heap.size]? = some (.cells #[u] 44 (0,0)))
  (hr:ERow W' (w.heap.size + 1) u es') (ha:a' ≤ s.length):LI w q s a' es' u W':=
 ⟨hq,hl,hr,⟨ht.os.trans h.tur.os,ht.tape.trans h.tur.tape,ht.output.trans h.tur.output,Nat.le_trans h.tur.size ht.size,fun b hb hn=>by
  rw [ht.block b (Nat.lt_of_lt_of_le hb h.tur.size) (fun hm => ?_)]
  ·exact h.tur.block b hb hn
  ·rcases List.mem_cons.1 hm with e | hm
   ·exact hn (by simp [e])
   ·rcases List.mem_cons.1 hm with e | hm
    ·omega
    ·have:=(h.vq b hm).1;omega⟩,h.ql,ha⟩
theorem LI.tur2 {w W W':World} {q a:Nat} {s:Nm} {es:List Ent} {v:Value} (h:LI w q s a es v W) (ht:Turned (q :: w.heap.size :: v.ownBlock.toList) W W'):Turned [q] w W':=
 ⟨ht.os.trans h.tur.os,ht.tape.trans h.tur.tape,ht.output.trans h.tur.output,Nat.le_trans h.tur.size ht.size,fun b hb hn=>by
  rw [ht.block b (Nat.lt_of_lt_of_le hb h.tur.size) (fun hm => ?_)]
  ·exact h.tur.block b hb hn
  ·rcases List.mem_cons.1 hm with e | hm
   ·exact hn (by simp [e])
   ·rcases List.mem_cons.1 hm with e | hm
    ·omega
    ·have:=(h.vq b hm).1;omega⟩
theorem ERow.base {w:World} {b b':Nat} {v:Value} {es:List Ent} (h:ERow w b v es) (hb:b' ≤ b):ERow w b' v es:=by
 obtain ⟨hl,h1 | ⟨g,c,cur,rfl,h2,h3⟩⟩:=h
 ·exact ⟨hl,.inl h1⟩
 ·exact ⟨hl,.inr ⟨g,c,cur,rfl,Nat.le_trans hb h2,h3⟩⟩
def LayP (q:Nat) (s:Nm) (r:Except Flt (List Ent × Nat)) (w:World) (e:Ending) (w':World):Prop:=match r with
 | .error p=>e = .panicked [{ v:=wrongV p.1 p.2,recovered:=false }] ∧ Turned [q] w w'
 | .ok (es,a)=>∃ v,e = .returned (.agg #[v]) ∧ ERow w' w.heap.size v es ∧ w'.heap[q]? = some (RdO s a) ∧ Turned [q] w w'
def layerD (s:Nm) (a:Nat):Except Flt (List Ent × Nat):=match markD s mkL a with
 | .error p=>.error p
 | .ok (_,b)=>layD s (s.length + 1) b []
theorem mark_len {s m:Nm} {a:Nat} (h:m.isPrefixOf (s.drop a) = true):m.length ≤ s.length - a:=by
 have:=(List.isPrefixOf_iff_prefix.1 h).length_le
 rw [List.length_drop] at this
 exact this
theorem entD_le {s:Nm} {k:Int} {a b:Nat} {es:List Ent} {e:Ent} (h:entD s k a es = .ok (e,b)):a < b ∧ b ≤ s.length ∧ e.path.length ≤ 140:=by
 unfold entD at h
 generalize (s.getD a 0).toNat = n at h
 split at h
 ·cases h
 split at h
 ·cases h
 split at h
 ·cases h
 split at h
 ·cases h
 split at h
 ·cases h
 split at h
 ·cases h
 split at h
 ·cases h
 split at h
 ·cases h
 split at h
 ·cases h
 split at h
 ·cases h
 cases h
 refine ⟨by omega,by omega,?_⟩
 show (sub s (a + 1) n).length ≤ 140
 unfold sub
 rw [List.length_take]
 omega
set_option maxHeartbeats 8000000 in
theorem layer_any (q:Nat) (s:Nm) (a:Nat) (w:World) (h:w.heap[q]? = some (RdO s a)) (ha:a ≤ s.length) (hs:s.length ≤ 65536) :
  Calls Tryz.prog 45 #[PP q,.pointer none] w (LayP q s (layerD s a) w):=by
 have hql:=blk_lt h
 obtain ⟨R,hR⟩:∃ R,layerD s a = R:=⟨_,rfl⟩
 rw [hR]
 unfold layerD at hR
 have HR:=Lib.hid hR
 clear hR
 have HI0:Hid (LI w q s a [] (.slice none 0 0) (w.alloc (.cells #[.slice none 0 0] 44 (0,0)))):=
  ⟨blk_old h _,blk_new _ _,ERow.nil _ _,(Turned.refl _ _).alloc _,hql,ha⟩
 clear h
 go_enter Tryz.func45,Tryz.ntmps45
 go_upto_region 1 with fail
 change Code.wp _ _ _ _ (w.alloc (.cells #[.slice none 0 0] 44 (0,0)))
 generalize (w.alloc (.cells #[.slice none 0 0] 44 (0,0))) = W0 at *
 have HM:=Lib.hid (mark_any q s mkL a W0 HI0.out.rd ha (by omega) (by decide))
 cases hpr:mkL.isPrefixOf (s.drop a) with
 | false =>
  rw [show markD s mkL a = .error (a,1301) from if_neg (by rw [hpr];decide)] at HM HR
  clear hpr
  go_wp2_with fail
  refine HM.out.mono ?_;rintro e w1 ⟨rfl,ht⟩
  exact ⟨rfl,by rw [← HR.out];exact ⟨rfl,HI0.out.tur.trans ht⟩⟩
 | true =>
 rw [show markD s mkL a = .ok ((),a + 3) from if_pos hpr] at HM HR
 have h3:a + 3 ≤ s.length:=by have:=mark_len hpr;simp [mkL] at this;omega
 clear hpr
 simp only at HR
 go_wp2_with fail
 refine HM.out.mono ?_;rintro e w1 ⟨rfl,hq,ht⟩
 have HI1:=Lib.hid (HI0.out.turn hq ht h3)
 clear hq ht HM HI0
 go_wp2_with fail
 go_loopg [5] (s.length + 1) (fun kk v5 wr=>∃ (b:Nat) (es:List Ent) (v:Value),s.length + 1 ≤ kk + b ∧ (∀ x ∈ es,x.path.length ≤ 2000000) ∧ Hid (LI w q s b es v wr) ∧ Hid (layD s kk b es = R))
 case atStart=>exact ⟨a + 3,[],_,by omega,by simp,HI1.out,HR.out⟩
 case round =>
  clear HI1 HR
  obtain ⟨b,es,v,hkb,hsm,HI,HR⟩:=hrel
  have hbl:=HI.out.al
  cases gk with
  | zero=>omega
  | succ gk =>
  have HR2:=HR.out
  rw [layD] at HR2
  have HD:=Lib.hid HR2
  clear HR2 HR
  obtain ⟨A,gb,c,rfl,hec,hcm,hA,hEA⟩:=HI.out.row.slice
  have HEA:=Lib.hid (And.intro hA hEA)
  clear hA hEA
  have r1:=blk_cell HI.out.rd 1
  have l0:=blk_cell HI.out.lb 0
  have ll:=blk_lt HI.out.lb
  simp only [List.getElem?_toArray,List.getElem?_cons_zero,List.getElem?_cons_succ] at r1 l0
  by_cases h1:s.length < b + 1
  ·rw [if_pos h1] at HD
   have HN:=Lib.hid (number_any q s b 1 wr HI.out.rd hbl (by omega) (.inl rfl))
   rw [show numD s b 1 = .error (s.length,1300) from if_pos h1] at HN
   clear h1
   go_wp2_with fail
   refine HN.out.mono ?_;rintro e w2 ⟨rfl,ht⟩
   exact ⟨rfl,by rw [← HD.out];exact ⟨rfl,HI.out.tur.trans ht⟩⟩
  rw [if_neg h1] at HD
  have HN:=Lib.hid (number_any q s b 1 wr HI.out.rd hbl (by omega) (.inl rfl))
  rw [show numD s b 1 = .ok ((s.getD b 0).toNat,b + 1) from if_neg h1] at HN
  have hk255:=(s.getD b 0).toNat_lt
  generalize (s.getD b 0).toNat = kd at *
  have hb1:b + 1 ≤ s.length:=by omega
  clear h1
  go_wp2_with fail
  refine HN.out.mono ?_;rintro e w2 ⟨rfl,hq,ht⟩
  have HI2:=Lib.hid (HI.out.turn hq ht hb1)
  clear hq ht HN r1 l0 ll
  have l0:=blk_cell HI2.out.lb 0
  have f0:=blk_free HI2.out.lb 0
  have ll:=blk_lt HI2.out.lb
  simp only [List.getElem?_toArray,List.getElem?_cons_zero] at l0
  by_cases h2:kd = 0
  ·rw [if_pos h2] at HD
   have hb0:((kd:Int) == 0) = true:=by rw [beq_iff_eq];omega
   clear h2
   go_wp2_with fail
   refine (fail_no b 1309 _).mono ?_;rintro e w' ⟨rfl,rfl⟩
   go_wp2_with fail
   change bodyPost _ _ _ _ _ (w2.setCell ⟨w.heap.size,0,none⟩ (.slice A es.length c))
   have HF:=Lib.hid (blk_set HI2.out.lb 0 (.slice A es.length c))
   have HT:Hid (Turned [q] w (w2.setCell ⟨w.heap.size,0,none⟩ (.slice A es.length c))):=tur_set HI2.out.tur (Nat.le_refl _) _
   have HQ:Hid ((w2.setCell ⟨w.heap.size,0,none⟩ (.slice A es.length c)).heap[q]? = some (RdO s (b + 1))):=by
    have:=HI2.out.ql
    unfold Hid
    rw [blk_other (by omega)];exact HI2.out.rd
   have HRW:Hid (ERow (w2.setCell ⟨w.heap.size,0,none⟩ (.slice A es.length c)) w.heap.size (.slice A es.length c) es):=
    (HI2.out.row.turned ((Turned.refl [w.heap.size] _).setCell (by simp) _) (fun g hg hm=>by
     have h1:=(HI2.out.vq g hg).1
     have h2:g = w.heap.size:=by simpa using hm
     omega)).base (by omega)
   generalize (w2.setCell ⟨w.heap.size,0,none⟩ (.slice A es.length c)) = wf at *
   have z0:=blk_cell HF.out 0
   simp only [List.setIfInBounds_toArray,List.set_cons_zero,List.getElem?_toArray,List.getElem?_cons_zero] at z0
   refine bodyPost_ret (v:=.agg #[.slice A es.length c]) (by simp [results,Tryz.results45,go_sem,z0]) rfl ?_
   rw [← HD.out]
   exact ⟨_,rfl,HRW.out,HQ.out,HT.out⟩
  rw [if_neg h2] at HD
  have hb0:((kd:Int) == 0) = false:=by rw [beq_eq_false_iff_ne];omega
  by_cases h5:5 < kd
  ·rw [if_pos h5] at HD
   have hkb:(decide (1 ≤ (kd:Int)) && decide ((kd:Int) ≤ 5)) = false:=by rw [decide_eq_false (show ¬ (kd:Int) ≤ 5 by omega),Bool.and_false]
   clear h2 h5
   go_wp2_with fail
   refine (known_any kd _).mono ?_;rintro e w' ⟨rfl,rfl⟩
   rw [hkb]
   go_wp2_with fail
   refine (fail_yes b 1302 _).mono ?_;rintro e w' ⟨rfl,rfl⟩
   exact ⟨rfl,by rw [← HD.out];exact ⟨rfl,HI2.out.tur⟩⟩
  rw [if_neg h5] at HD
  have hkb:(decide (1 ≤ (kd:Int)) && decide ((kd:Int) ≤ 5)) = true:=by rw [decide_eq_true (show 1 ≤ (kd:Int) by omega),decide_eq_true (show (kd:Int) ≤ 5 by omega)];rfl
  clear h2 h5
  go_wp2_with fail
  refine (known_any kd _).mono ?_;rintro e w' ⟨rfl,rfl⟩
  rw [hkb]
  clear hkb hb0
  go_wp2_with fail
  refine (fail_no b 1302 _).mono ?_;rintro e w' ⟨rfl,rfl⟩
  by_cases h6:256 ≤ es.length
  ·rw [if_pos h6] at HD
   have d6:decide ((256:Int) ≤ (es.length:Int)) = true:=decide_eq_true (by omega)
   clear h6
   go_wp2_with fail
   refine (fail_yes b 1309 _).mono ?_;rintro e w' ⟨rfl,rfl⟩
   exact ⟨rfl,by rw [← HD.out];exact ⟨rfl,HI2.out.tur⟩⟩
  rw [if_neg h6] at HD
  have d6:decide ((256:Int) ≤ (es.length:Int)) = false:=decide_eq_false (by omega)
  have hel:es.length ≤ 1000000:=by omega
  clear h6
  go_wp2_with fail
  refine (fail_no b 1309 _).mono ?_;rintro e w' ⟨rfl,rfl⟩
  clear d6
  have HVQ:=Lib.hid HI2.out.vq
  go_upto_region 9 with fail
  clear l0 f0
  cases hen:entD s kd (b + 1) es with
  | error p =>
   have HD2:Hid ((.error p:Except Flt (List Ent × Nat)) = R):=by
    have:=HD.out
    rw [hen] at this
    exact this
   refine reg.region_eachG (by kernel_rfl) ((fun rj w1 w2=>heap.Turned (layS q w.heap.size (.slice A es.length c) rj) w1 w2)) (fun w'=>Turned (q :: w.heap.size :: (Value.slice A es.length c).ownBlock.toList) w2 w') (fun ri v w'=>match ri with
     | 0=>v = .pointer (some ⟨w.heap.size,0,none⟩)
     | 1=>v = .slice A es.length c
     | 2=>v = PP q
     | 3=>v = .int .i64 kd
     | 4=>v = .int .i64 b
     | 5=>v = .pointer (some ⟨w.heap.size,0,none⟩)
     | 6=>v = .slice A es.length c
     | 7=>v = .pointer none
     | 8=>v = v ∧ False
     | 9=>v = v ∧ False
     | 10=>v = v ∧ False
     | 11=>v = .pointer (some ⟨w.heap.size,0,none⟩)
     | 12=>v = v ∧ False
     | _=>True) (fun rk w'=>match rk with
     | 8=>w'.heap[q]? = some (RdO s (b + 1))
     | 10=>ERow w' (w.heap.size + 1) (.slice A es.length c) es
     | 12=>w'.heap[w.heap.size]? = some (.cells #[.slice A es.length c] 44 (0,0))
     | _=>True) ?_ ?_ ?_ ?_ ?_ (by kernel_rfl) ?_ ?_
   ·exact (Turned.refl _ _).drew
   ·
    intro k
    split <;> first | trivial | (first | exact HI2.out.rd | exact HI2.out.row | exact HI2.out.lb)
   ·
    intro j w1 w2 h hx
    exact h.trans (hx.mono (fun x hm=>layS_sub hm))
   ·
    intro j i v w1 w2 hij hj hr h hx
    rcases i with _|_|_|_|_|_|_|_|_|_|_|_|_|i
    ·exact h
    ·exact h
    ·exact h
    ·exact h
    ·exact h
    ·exact h
    ·exact h
    ·exact h
    ·exact h
    ·exact h
    ·exact h
    ·exact h
    ·exact (reg.last_no (by kernel_rfl) hij hj hr).elim
    ·trivial
   ·
    intro j k w1 w2 hkj h hx
    split at h <;> first | exact h | exact hx.kept h (fun hm=>by rcases layS_mem hm with ⟨e1,e2⟩ | ⟨e1,e2⟩ | ⟨e1,e2⟩ <;> first | omega | (have:=(HVQ.out _ e2).1;omega)) | exact ERow.turned h hx (fun g hg' hm=>by rcases layS_mem hm with ⟨e1,e2⟩ | ⟨e1,e2⟩ | ⟨e1,e2⟩ <;> first | omega | (have:=(HVQ.out _ hg').1;omega))
   ·
    refine ⟨?_,?_,?_,?_,?_,?_,?_,?_,?_,?_,?_,?_,?_,trivial⟩
    ·-- 0: slot 38:=Op.fieldAddr 44 t4 0
     intro ra w' hx hg hs
     have s4:ra.eval (.tmp 4) = .pointer (some ⟨w.heap.size,0,none⟩):=hs.1
     clear hs
     change Oper.wp _ _ ra w' _ _
     refine reg.wp_value (v:=.pointer (some ⟨w.heap.size,0,none⟩)) (w':=w') ?_ ⟨_,rfl,heap.Turned.refl _ _,rfl⟩
     intro ρ rc rf rg re
     rw [re] at s4
     simp [execOp,go_sem,rc,rf,rg,s4] <;> first | omega | rfl | decide
    ·-- 1: slot 39:=Op.load 41 t38
     intro ra w' hx hg hs
     have s38:ra.eval (.tmp 38) = .pointer (some ⟨w.heap.size,0,none⟩):=hs.1
     clear hs
     change Oper.wp _ _ ra w' _ _
     have hc0:=blk_cell (hg 12 rfl) 0
     refine reg.wp_value (v:=.slice A es.length c) (w':=w') ?_ ⟨_,rfl,heap.Turned.refl _ _,rfl⟩
     intro ρ rc rf rg re
     rw [re] at s38
     simp [execOp,go_sem,rc,rf,rg,s38,hc0] <;> first | omega | rfl | decide
    ·-- 2: slot 40:=Op.move t0
     intro ra w' hx hg hs
     have s0:ra.eval (.tmp 0) = PP q:=hs.1
     clear hs
     change Oper.wp _ _ ra w' _ _
     refine reg.wp_value (v:=PP q) (w':=w') ?_ ⟨_,rfl,heap.Turned.refl _ _,rfl⟩
     intro ρ rc rf rg re
     rw [re] at s0
     simp [execOp,go_sem,rc,rf,rg,s0] <;> first | omega | rfl | decide
    ·-- 3: slot 41:=Op.move t6
     intro ra w' hx hg hs
     have s6:ra.eval (.tmp 6) = .int .i64 kd:=hs.1
     clear hs
     change Oper.wp _ _ ra w' _ _
     refine reg.wp_value (v:=.int .i64 kd) (w':=w') ?_ ⟨_,rfl,heap.Turned.refl _ _,rfl⟩
     intro ρ rc rf rg re
     rw [re] at s6
     simp [execOp,go_sem,rc,rf,rg,s6] <;> first | omega | rfl | decide
    ·-- 4: slot 42:=Op.move t5
     intro ra w' hx hg hs
     have s5:ra.eval (.tmp 5) = .int .i64 b:=hs.1
     clear hs
     change Oper.wp _ _ ra w' _ _
     refine reg.wp_value (v:=.int .i64 b) (w':=w') ?_ ⟨_,rfl,heap.Turned.refl _ _,rfl⟩
     intro ρ rc rf rg re
     rw [re] at s5
     simp [execOp,go_sem,rc,rf,rg,s5] <;> first | omega | rfl | decide
    ·-- 5: slot 43:=Op.fieldAddr 44 t4 0
     intro ra w' hx hg hs
     have s4:ra.eval (.tmp 4) = .pointer (some ⟨w.heap.size,0,none⟩):=hs.1
     clear hs
     change Oper.wp _ _ ra w' _ _
     refine reg.wp_value (v:=.pointer (some ⟨w.heap.size,0,none⟩)) (w':=w') ?_ ⟨_,rfl,heap.Turned.refl _ _,rfl⟩
     intro ρ rc rf rg re
     rw [re] at s4
     simp [execOp,go_sem,rc,rf,rg,s4] <;> first | omega | rfl | decide
    ·-- 6: slot 44:=Op.load 41 t43
     intro ra w' hx hg hs
     have s43:ra.eval (.tmp 43) = .pointer (some ⟨w.heap.size,0,none⟩):=hs.1
     clear hs
     change Oper.wp _ _ ra w' _ _
     have hc0:=blk_cell (hg 12 rfl) 0
     refine reg.wp_value (v:=.slice A es.length c) (w':=w') ?_ ⟨_,rfl,heap.Turned.refl _ _,rfl⟩
     intro ρ rc rf rg re
     rw [re] at s43
     simp [execOp,go_sem,rc,rf,rg,s43,hc0] <;> first | omega | rfl | decide
    ·-- 7: slot 45:=Op.move t1
     intro ra w' hx hg hs
     have s1:ra.eval (.tmp 1) = .pointer none:=hs.1
     clear hs
     change Oper.wp _ _ ra w' _ _
     refine reg.wp_value (v:=.pointer none) (w':=w') ?_ ⟨_,rfl,heap.Turned.refl _ _,rfl⟩
     intro ρ rc rf rg re
     rw [re] at s1
     simp [execOp,go_sem,rc,rf,rg,s1] <;> first | omega | rfl | decide
    ·-- 8: slot 46:=Op.call { value (Operand.func 84),args := #[t40,t41,t42,t44,t45],argTypes := #[83,3,3,41,6
     intro ra w' hx hg hs
     have s40:ra.eval (.tmp 40) = PP q:=hs.1
     have s41:ra.eval (.tmp 41) = .int .i64 kd:=hs.2.1
     have s42:ra.eval (.tmp 42) = .int .i64 b:=hs.2.2.1
     have s44:ra.eval (.tmp 44) = .slice A es.length c:=hs.2.2.2.1
     have s45:ra.eval (.tmp 45) = .pointer none:=hs.2.2.2.2.1
     have hdef:ra.defers = []:=hs.2.2.2.2.2
     clear hs
     change Oper.wp _ _ ra w' _ _
     obtain ⟨A',g',c',hv',hec',hcm',hA',hEA'⟩:=(hg 10 rfl).slice
     cases hv'
     have HE:=entry_any q s (b + 1) kd b es A g' 0 c w' (hg 8 rfl) hb1 (by omega) hEA' (fun h=>by have:=(hA' h).2.1;omega) (fun h=>(hA' h).1) hec' hcm' hsm
     rw [hen] at HE
     refine wp_fall (f:=84) (args := #[PP q,.int .i64 kd,.int .i64 b,.slice A es.length c,.pointer none]) (w':=w') ?_ (HE.mono ?_)
     ·intro ρ rc rf rg re
      rw [re] at s40 s41 s42 s44 s45
      simp [execOp,go_sem,rc,rf,rg,s40,s41,s42,s44,s45] <;> first | omega | rfl | decide
     rintro e w3 ⟨rfl,ht⟩
     exact ⟨_,rfl,hdef,by rw [← HD2.out];exact ⟨rfl,HI2.out.tur2 (hx.trans (ht.mono (by simp)))⟩⟩
    ·-- 9: slot 47:=Op.buildSlice 41 1 #[(0,t46)]
     intro ra w' hx hg hs
     have s46:(ra.eval (.tmp 46)) = (ra.eval (.tmp 46)) ∧ False:=hs.1
     clear hs
     change Oper.wp _ _ ra w' _ _
     exact s46.2.elim
    ·-- 10: slot 48:=Op.call { builtin append,args := #[t39,t47],argTypes := #[41,41] }
     intro ra w' hx hg hs
     have s39:ra.eval (.tmp 39) = .slice A es.length c:=hs.1
     have s47:(ra.eval (.tmp 47)) = (ra.eval (.tmp 47)) ∧ False:=hs.2.1
     clear hs
     change Oper.wp _ _ ra w' _ _
     exact s47.2.elim
    ·-- 11: slot 49:=Op.fieldAddr 44 t4 0
     intro ra w' hx hg hs
     have s4:ra.eval (.tmp 4) = .pointer (some ⟨w.heap.size,0,none⟩):=hs.1
     clear hs
     change Oper.wp _ _ ra w' _ _
     refine reg.wp_value (v:=.pointer (some ⟨w.heap.size,0,none⟩)) (w':=w') ?_ ⟨_,rfl,heap.Turned.refl _ _,rfl⟩
     intro ρ rc rf rg re
     rw [re] at s4
     simp [execOp,go_sem,rc,rf,rg,s4] <;> first | omega | rfl | decide
    ·-- 12: slot None:=Op.store 41 t49 t48
     intro ra w' hx hg hs
     have s49:ra.eval (.tmp 49) = .pointer (some ⟨w.heap.size,0,none⟩):=hs.1
     have s48:(ra.eval (.tmp 48)) = (ra.eval (.tmp 48)) ∧ False:=hs.2.1
     clear hs
     change Oper.wp _ _ ra w' _ _
     exact s48.2.elim
   intro rV w6 hx6 hf
   have ve0:rV 0 = .pointer (some ⟨w.heap.size,0,none⟩):=hf 0 (by decide)
   have ve1:rV 1 = .slice A es.length c:=hf 1 (by decide)
   have ve2:rV 2 = PP q:=hf 2 (by decide)
   have ve3:rV 3 = .int .i64 kd:=hf 3 (by decide)
   have ve4:rV 4 = .int .i64 b:=hf 4 (by decide)
   have ve5:rV 5 = .pointer (some ⟨w.heap.size,0,none⟩):=hf 5 (by decide)
   have ve6:rV 6 = .slice A es.length c:=hf 6 (by decide)
   have ve7:rV 7 = .pointer none:=hf 7 (by decide)
   have ve8:=hf 8 (by decide)
   have ve9:=hf 9 (by decide)
   have ve10:=hf 10 (by decide)
   have ve11:rV 11 = .pointer (some ⟨w.heap.size,0,none⟩):=hf 11 (by decide)
   have ve12:=hf 12 (by decide)
   clear hf
   simp only [List.zipIdx_cons,List.zipIdx_nil,List.foldl_cons,List.foldl_nil,Act.put,Nat.reduceAdd,List.setIfInBounds_toArray,List.set_cons_succ,List.set_cons_zero,ve0,ve1,ve2,ve3,ve4,ve5,ve6,ve7,ve11]
   clear ve0 ve1 ve2 ve3 ve4 ve5 ve6 ve7 ve11
   generalize rV 8 = v8 at *
   generalize rV 9 = v9 at *
   generalize rV 10 = v10 at *
   generalize rV 12 = v12 at *
   clear rV
   exact ve12.2.elim
  | ok r =>
   obtain ⟨e1,b2⟩:=r
   have hle:=entD_le hen
   have HD2:Hid (layD s gk b2 (es ++ [e1]) = R):=by
    have:=HD.out
    rw [hen] at this
    exact this
   refine reg.region_eachG (by kernel_rfl) ((fun rj w1 w2=>heap.Turned (layS q w.heap.size (.slice A es.length c) rj) w1 w2)) (fun w'=>Turned (q :: w.heap.size :: (Value.slice A es.length c).ownBlock.toList) w2 w') (fun ri v w'=>match ri with
     | 0=>v = .pointer (some ⟨w.heap.size,0,none⟩)
     | 1=>v = .slice A es.length c
     | 2=>v = PP q
     | 3=>v = .int .i64 kd
     | 4=>v = .int .i64 b
     | 5=>v = .pointer (some ⟨w.heap.size,0,none⟩)
     | 6=>v = .slice A es.length c
     | 7=>v = .pointer none
     | 8=>v = entV e1 ∧ w'.heap[q]? = some (RdO s b2)
     | 9=>∃ h1,v = .slice (some ⟨h1,0,none⟩) 1 1 ∧ w2.heap.size ≤ h1 ∧ w'.heap[h1]? = some (entO e1)
     | 10=>∃ g cap,v = .slice (some ⟨g,0,none⟩) (es.length + 1) cap ∧ ERow w' (w.heap.size + 1) v (es ++ [e1])
     | 11=>v = .pointer (some ⟨w.heap.size,0,none⟩)
     | 12=>∃ u,w'.heap[w.heap.size]? = some (.cells #[u] 44 (0,0)) ∧ ERow w' (w.heap.size + 1) u (es ++ [e1])
     | _=>True) (fun rk w'=>match rk with
     | 8=>w'.heap[q]? = some (RdO s (b + 1))
     | 10=>ERow w' (w.heap.size + 1) (.slice A es.length c) es
     | 12=>w'.heap[w.heap.size]? = some (.cells #[.slice A es.length c] 44 (0,0))
     | _=>True) ?_ ?_ ?_ ?_ ?_ (by kernel_rfl) ?_ ?_
   ·exact (Turned.refl _ _).drew
   ·
    intro k
    split <;> first | trivial | (first | exact HI2.out.rd | exact HI2.out.row | exact HI2.out.lb)
   ·
    intro j w1 w2 h hx
    exact h.trans (hx.mono (fun x hm=>layS_sub hm))
   ·
    intro j i v w1 w2 hij hj hr h hx
    rcases i with _|_|_|_|_|_|_|_|_|_|_|_|_|i
    ·exact h
    ·exact h
    ·exact h
    ·exact h
    ·exact h
    ·exact h
    ·exact h
    ·exact h
    ·exact ⟨h.1,hx.kept h.2 (fun hm=>by rcases layS_mem hm with ⟨k1,k2⟩ | ⟨k1,k2⟩ | ⟨k1,k2⟩ <;> first | omega | (have:=(HVQ.out _ k2).1;omega))⟩
    ·(obtain ⟨h1,k1,k2,k3⟩:=h;exact ⟨h1,k1,k2,hx.kept k3 (fun hm=>by rcases layS_mem hm with ⟨m1,m2⟩ | ⟨m1,m2⟩ | ⟨m1,m2⟩ <;> first | omega | (have:=(HVQ.out _ m2).2;omega))⟩)
    ·(obtain ⟨g,cap,k1,k2⟩:=h;exact ⟨g,cap,k1,k2.turned hx (fun x hg' hm=>by have k3:=(k2.lt x hg').1;rcases layS_mem hm with ⟨m1,m2⟩ | ⟨m1,m2⟩ | ⟨m1,m2⟩ <;> omega)⟩)
    ·exact h
    ·exact (reg.last_no (by kernel_rfl) hij hj hr).elim
    ·trivial
   ·
    intro j k w1 w2 hkj h hx
    split at h <;> first | exact h | exact hx.kept h (fun hm=>by rcases layS_mem hm with ⟨e1,e2⟩ | ⟨e1,e2⟩ | ⟨e1,e2⟩ <;> first | omega | (have:=(HVQ.out _ e2).1;omega)) | exact ERow.turned h hx (fun g hg' hm=>by rcases layS_mem hm with ⟨e1,e2⟩ | ⟨e1,e2⟩ | ⟨e1,e2⟩ <;> first | omega | (have:=(HVQ.out _ hg').1;omega))
   ·
    refine ⟨?_,?_,?_,?_,?_,?_,?_,?_,?_,?_,?_,?_,?_,trivial⟩
    ·-- 0: slot 38:=Op.fieldAddr 44 t4 0
     intro ra w' hx hg hs
     have s4:ra.eval (.tmp 4) = .pointer (some ⟨w.heap.size,0,none⟩):=hs.1
     clear hs
     change Oper.wp _ _ ra w' _ _
     refine reg.wp_value (v:=.pointer (some ⟨w.heap.size,0,none⟩)) (w':=w') ?_ ⟨_,rfl,heap.Turned.refl _ _,rfl⟩
     intro ρ rc rf rg re
     rw [re] at s4
     simp [execOp,go_sem,rc,rf,rg,s4] <;> first | omega | rfl | decide
    ·-- 1: slot 39:=Op.load 41 t38
     intro ra w' hx hg hs
     have s38:ra.eval (.tmp 38) = .pointer (some ⟨w.heap.size,0,none⟩):=hs.1
     clear hs
     change Oper.wp _ _ ra w' _ _
     have hc0:=blk_cell (hg 12 rfl) 0
     refine reg.wp_value (v:=.slice A es.length c) (w':=w') ?_ ⟨_,rfl,heap.Turned.refl _ _,rfl⟩
     intro ρ rc rf rg re
     rw [re] at s38
     simp [execOp,go_sem,rc,rf,rg,s38,hc0] <;> first | omega | rfl | decide
    ·-- 2: slot 40:=Op.move t0
     intro ra w' hx hg hs
     have s0:ra.eval (.tmp 0) = PP q:=hs.1
     clear hs
     change Oper.wp _ _ ra w' _ _
     refine reg.wp_value (v:=PP q) (w':=w') ?_ ⟨_,rfl,heap.Turned.refl _ _,rfl⟩
     intro ρ rc rf rg re
     rw [re] at s0
     simp [execOp,go_sem,rc,rf,rg,s0] <;> first | omega | rfl | decide
    ·-- 3: slot 41:=Op.move t6
     intro ra w' hx hg hs
     have s6:ra.eval (.tmp 6) = .int .i64 kd:=hs.1
     clear hs
     change Oper.wp _ _ ra w' _ _
     refine reg.wp_value (v:=.int .i64 kd) (w':=w') ?_ ⟨_,rfl,heap.Turned.refl _ _,rfl⟩
     intro ρ rc rf rg re
     rw [re] at s6
     simp [execOp,go_sem,rc,rf,rg,s6] <;> first | omega | rfl | decide
    ·-- 4: slot 42:=Op.move t5
     intro ra w' hx hg hs
     have s5:ra.eval (.tmp 5) = .int .i64 b:=hs.1
     clear hs
     change Oper.wp _ _ ra w' _ _
     refine reg.wp_value (v:=.int .i64 b) (w':=w') ?_ ⟨_,rfl,heap.Turned.refl _ _,rfl⟩
     intro ρ rc rf rg re
     rw [re] at s5
     simp [execOp,go_sem,rc,rf,rg,s5] <;> first | omega | rfl | decide
    ·-- 5: slot 43:=Op.fieldAddr 44 t4 0
     intro ra w' hx hg hs
     have s4:ra.eval (.tmp 4) = .pointer (some ⟨w.heap.size,0,none⟩):=hs.1
     clear hs
     change Oper.wp _ _ ra w' _ _
     refine reg.wp_value (v:=.pointer (some ⟨w.heap.size,0,none⟩)) (w':=w') ?_ ⟨_,rfl,heap.Turned.refl _ _,rfl⟩
     intro ρ rc rf rg re
     rw [re] at s4
     simp [execOp,go_sem,rc,rf,rg,s4] <;> first | omega | rfl | decide
    ·-- 6: slot 44:=Op.load 41 t43
     intro ra w' hx hg hs
     have s43:ra.eval (.tmp 43) = .pointer (some ⟨w.heap.size,0,none⟩):=hs.1
     clear hs
     change Oper.wp _ _ ra w' _ _
     have hc0:=blk_cell (hg 12 rfl) 0
     refine reg.wp_value (v:=.slice A es.length c) (w':=w') ?_ ⟨_,rfl,heap.Turned.refl _ _,rfl⟩
     intro ρ rc rf rg re
     rw [re] at s43
     simp [execOp,go_sem,rc,rf,rg,s43,hc0] <;> first | omega | rfl | decide
    ·-- 7: slot 45:=Op.move t1
     intro ra w' hx hg hs
     have s1:ra.eval (.tmp 1) = .pointer none:=hs.1
     clear hs
     change Oper.wp _ _ ra w' _ _
     refine reg.wp_value (v:=.pointer none) (w':=w') ?_ ⟨_,rfl,heap.Turned.refl _ _,rfl⟩
     intro ρ rc rf rg re
     rw [re] at s1
     simp [execOp,go_sem,rc,rf,rg,s1] <;> first | omega | rfl | decide
    ·-- 8: slot 46:=Op.call { value (Operand.func 84),args := #[t40,t41,t42,t44,t45],argTypes := #[83,3,3,41,6
     intro ra w' hx hg hs
     have s40:ra.eval (.tmp 40) = PP q:=hs.1
     have s41:ra.eval (.tmp 41) = .int .i64 kd:=hs.2.1
     have s42:ra.eval (.tmp 42) = .int .i64 b:=hs.2.2.1
     have s44:ra.eval (.tmp 44) = .slice A es.length c:=hs.2.2.2.1
     have s45:ra.eval (.tmp 45) = .pointer none:=hs.2.2.2.2.1
     clear hs
     change Oper.wp _ _ ra w' _ _
     obtain ⟨A',g',c',hv',hec',hcm',hA',hEA'⟩:=(hg 10 rfl).slice
     cases hv'
     have HE:=entry_any q s (b + 1) kd b es A g' 0 c w' (hg 8 rfl) hb1 (by omega) hEA' (fun h=>by have:=(hA' h).2.1;omega) (fun h=>(hA' h).1) hec' hcm' hsm
     rw [hen] at HE
     refine reg.wp_call (f:=84) (args := #[PP q,.int .i64 kd,.int .i64 b,.slice A es.length c,.pointer none]) (w':=w') ?_ (HE.mono ?_)
     ·intro ρ rc rf rg re
      rw [re] at s40 s41 s42 s44 s45
      simp [execOp,go_sem,rc,rf,rg,s40,s41,s42,s44,s45] <;> first | omega | rfl | decide
     rintro e w3 ⟨rfl,hq,ht⟩
     exact ⟨_,rfl,_,rfl,ht,rfl,hq⟩
    ·-- 9: slot 47:=Op.buildSlice 41 1 #[(0,t46)]
     intro ra w' hx hg hs
     have s46:(ra.eval (.tmp 46)) = entV e1 ∧ w'.heap[q]? = some (RdO s b2):=hs.1
     clear hs
     change Oper.wp _ _ ra w' _ _
     obtain ⟨hv,hq⟩:=s46
     refine reg.wp_value (v:=.slice (some ⟨w'.heap.size,0,none⟩) 1 1) (w':=w'.alloc (entO e1)) ?_ ⟨_,rfl,(heap.Turned.refl _ _).alloc _,_,rfl,hx.size,blk_new _ _⟩
     intro ρ rc rf rg re
     rw [re] at hv
     simp [execOp,go_sem,rc,rf,rg,hv]
    ·-- 10: slot 48:=Op.call { builtin append,args := #[t39,t47],argTypes := #[41,41] }
     intro ra w' hx hg hs
     have s39:ra.eval (.tmp 39) = .slice A es.length c:=hs.1
     have s47:∃ h1,(ra.eval (.tmp 47)) = .slice (some ⟨h1,0,none⟩) 1 1 ∧ w2.heap.size ≤ h1 ∧ w'.heap[h1]? = some (entO e1):=hs.2.1
     clear hs
     change Oper.wp _ _ ra w' _ _
     obtain ⟨h1,hv,hh1,hh2⟩:=s47
     obtain ⟨g,cap,w3,hrun,hrow,ht⟩:=(hg 10 rfl).app hh2 hel (by have:=hx.size;omega)
     refine reg.wp_value (v:=.slice (some ⟨g,0,none⟩) (es.length + 1) cap) (w':=w3) (reg.runs_append rfl rfl s39 hv hrun) ⟨_,rfl,ht,g,cap,rfl,hrow⟩
    ·-- 11: slot 49:=Op.fieldAddr 44 t4 0
     intro ra w' hx hg hs
     have s4:ra.eval (.tmp 4) = .pointer (some ⟨w.heap.size,0,none⟩):=hs.1
     clear hs
     change Oper.wp _ _ ra w' _ _
     refine reg.wp_value (v:=.pointer (some ⟨w.heap.size,0,none⟩)) (w':=w') ?_ ⟨_,rfl,heap.Turned.refl _ _,rfl⟩
     intro ρ rc rf rg re
     rw [re] at s4
     simp [execOp,go_sem,rc,rf,rg,s4] <;> first | omega | rfl | decide
    ·-- 12: slot None:=Op.store 41 t49 t48
     intro ra w' hx hg hs
     have s49:ra.eval (.tmp 49) = .pointer (some ⟨w.heap.size,0,none⟩):=hs.1
     have s48:∃ g cap,(ra.eval (.tmp 48)) = .slice (some ⟨g,0,none⟩) (es.length + 1) cap ∧ ERow w' (w.heap.size + 1) (ra.eval (.tmp 48)) (es ++ [e1]):=hs.2.1
     clear hs
     change Oper.wp _ _ ra w' _ _
     have hbk:=hg 12 rfl
     have hc0:=blk_cell hbk 0
     have hf0:=blk_free hbk 0
     obtain ⟨g,cap,hv,hrow⟩:=s48
     refine reg.wp_skip (w':=w'.setCell ⟨w.heap.size,0,none⟩ (ra.eval (.tmp 48))) ?_ ⟨_,rfl,(heap.Turned.refl _ _).setCell (by simp [layS]) _,_,blk_set hbk 0 _,hrow.turned ((heap.Turned.refl [w.heap.size] _).setCell (by simp) _) (fun x hg' hm=>by have k3:=(hrow.lt x hg').1;simp at hm;omega)⟩
     rw [hv]
     intro ρ rc rf rg re
     rw [re] at hv s49
     simp [execOp,go_sem,hv,s49,hc0,hf0]
   intro rV w6 hx6 hf
   have ve0:rV 0 = .pointer (some ⟨w.heap.size,0,none⟩):=hf 0 (by decide)
   have ve1:rV 1 = .slice A es.length c:=hf 1 (by decide)
   have ve2:rV 2 = PP q:=hf 2 (by decide)
   have ve3:rV 3 = .int .i64 kd:=hf 3 (by decide)
   have ve4:rV 4 = .int .i64 b:=hf 4 (by decide)
   have ve5:rV 5 = .pointer (some ⟨w.heap.size,0,none⟩):=hf 5 (by decide)
   have ve6:rV 6 = .slice A es.length c:=hf 6 (by decide)
   have ve7:rV 7 = .pointer none:=hf 7 (by decide)
   have ve8:=hf 8 (by decide)
   have ve9:=hf 9 (by decide)
   have ve10:=hf 10 (by decide)
   have ve11:rV 11 = .pointer (some ⟨w.heap.size,0,none⟩):=hf 11 (by decide)
   have ve12:=hf 12 (by decide)
   clear hf
   simp only [List.zipIdx_cons,List.zipIdx_nil,List.foldl_cons,List.foldl_nil,Act.put,Nat.reduceAdd,List.setIfInBounds_toArray,List.set_cons_succ,List.set_cons_zero,ve0,ve1,ve2,ve3,ve4,ve5,ve6,ve7,ve11]
   clear ve0 ve1 ve2 ve3 ve4 ve5 ve6 ve7 ve11
   generalize rV 8 = v8 at *
   generalize rV 9 = v9 at *
   generalize rV 10 = v10 at *
   generalize rV 12 = v12 at *
   clear rV
   obtain ⟨u,hu1,hu2⟩:=ve12
   have HI3:=Lib.hid (HI2.out.done hx6 ve8.2 hu1 hu2 hle.2.1)
   clear hx6 hu1 hu2 ve8 ve9 ve10
   go_wp2_with fail
   go_roundg gk
   case rel=>exact ⟨b2,es ++ [e1],u,by omega,fun x hx=>by
    rcases List.mem_append.1 hx with hx | hx
    ·exact hsm x hx
    ·rw [List.mem_singleton] at hx;subst hx;have:=hle.2.2;omega,HI3.out,HD2.out⟩
   case measure=>omega
end Go.Proofs.YtifhnpkapgaboaaGreat.arch
