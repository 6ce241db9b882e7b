/-
  Proved: what the deferred functions of package archive do. Conditions: as each theorem says.
-/
import Derived.Test.YtifhnpkapgaboaaGreatPj20
set_option linter.unusedVariables false
set_option linter.unusedSimpArgs false
namespace Go.Proofs.YtifhnpkapgaboaaGreat.arch
open Go.RowKit
open heap
open path (sv str_size)
set_option maxRecDepth 100000
theorem assert_wrong (a:Nat) (c:Int) (w:World):(Instr.typeAssert (wrongV a c) 20 139 true).run Tryz.prog w = .ok (.tuple #[.agg #[.int .i64 a,.int .i64 c],.bool true]) w:=by kernel_rfl
theorem neq_wrong (a:Nat) (c:Int) (w:World):(binOp .neq 20 (wrongV a c) .nilIface).run Tryz.prog w = .ok (.bool true) w:=by kernel_rfl
set_option maxHeartbeats 2000000 in
theorem dfrL_panic (b4 b5 b6:Nat) (x4:Value) (x5 x6:Int) (a:Nat) (c:Int) (w:World) (h4:w.heap[b4]? = some (.cells #[x4] 44 (0,0))) (h5:w.heap[b5]? = some (.cells #[.int .i64 x5] 3 (0,0))) (h6:w.heap[b6]? = some (.cells #[.int .i64 x6] 26 (0,0))) (h45:b4 ≠ b5) (h46:b4 ≠ b6) (h56:b5 ≠ b6) :
  CallsD Tryz.prog 108 #[.pointer (some ⟨b4,0,none⟩),.pointer (some ⟨b5,0,none⟩),.pointer (some ⟨b6,0,none⟩)] (.panicking [{ v:=wrongV a c,recovered:=false }]) w fun e u' w'=>e = .returned (.tuple #[]) ∧ u' = .panicking [{ v:=wrongV a c,recovered:=true }] ∧
   w'.heap[b4]? = some (.cells #[.slice none 0 0] 44 (0,0)) ∧ w'.heap[b5]? = some (.cells #[.int .i64 a] 3 (0,0)) ∧ w'.heap[b6]? = some (.cells #[.int .i64 c] 26 (0,0)) ∧ Turned [b4,b5,b6] w w':=by
 have c4:=blk_cell h4 0
 have c5:=blk_cell h5 0
 have c6:=blk_cell h6 0
 have f4:=blk_free h4 0
 have f5:=blk_free h5 0
 have f6:=blk_free h6 0
 have l4:=blk_lt h4
 have l5:=blk_lt h5
 have l6:=blk_lt h6
 have hta:=assert_wrong a c
 refine callsD_of_wpS Tryz.func108 rfl fun c₀ cs hu => ?_
 apply wpS_seq
 apply wpS_region
 simp [wpOpsS,go_sem,recoverD,hu,Tryz.ntmps108,Exit.thenS]
 refine wpS_of_wp ?_
 simp only [Array.replicate_succ,Array.replicate_zero,List.push_toArray,List.nil_append,List.cons_append,List.append_toArray,List.setIfInBounds_toArray,List.set_cons_succ,List.set_cons_zero]
 have hnq:=neq_wrong a c
 clear hu
 go_wp2_with fail
 go_region
 all_goals
  go_wp2_with fail
  have q4:(((((w.setCell ⟨b4,0,none⟩ (.slice none 0 0)).setCell ⟨b5,0,none⟩ (.int .i64 a)).setCell ⟨b6,0,none⟩ (.int .i64 c)).alloc (.cells #[.int .i64 a,.int .i64 c] 139 (0,0))).alloc (.cells #[.slice none 0 0] 44 (0,0))).drew.heap[b4]? = some (.cells #[.slice none 0 0] 44 (0,0)):=
   blk_old (blk_old ((blk_other h46 0 _).trans ((blk_other h45 0 _).trans (blk_set h4 0 _))) _) _
  have q5:(((((w.setCell ⟨b4,0,none⟩ (.slice none 0 0)).setCell ⟨b5,0,none⟩ (.int .i64 a)).setCell ⟨b6,0,none⟩ (.int .i64 c)).alloc (.cells #[.int .i64 a,.int .i64 c] 139 (0,0))).alloc (.cells #[.slice none 0 0] 44 (0,0))).drew.heap[b5]? = some (.cells #[.int .i64 a] 3 (0,0)):=
   blk_old (blk_old ((blk_other h56 0 _).trans (blk_set ((blk_other (Ne.symm h45) 0 _).trans h5) 0 _)) _) _
  have q6:(((((w.setCell ⟨b4,0,none⟩ (.slice none 0 0)).setCell ⟨b5,0,none⟩ (.int .i64 a)).setCell ⟨b6,0,none⟩ (.int .i64 c)).alloc (.cells #[.int .i64 a,.int .i64 c] 139 (0,0))).alloc (.cells #[.slice none 0 0] 44 (0,0))).drew.heap[b6]? = some (.cells #[.int .i64 c] 26 (0,0)):=
   blk_old (blk_old (blk_set ((blk_other (Ne.symm h56) 0 _).trans ((blk_other (Ne.symm h46) 0 _).trans h6)) 0 _) _) _
  have qt:Turned [b4,b5,b6] w (((((w.setCell ⟨b4,0,none⟩ (.slice none 0 0)).setCell ⟨b5,0,none⟩ (.int .i64 a)).setCell ⟨b6,0,none⟩ (.int .i64 c)).alloc (.cells #[.int .i64 a,.int .i64 c] 139 (0,0))).alloc (.cells #[.slice none 0 0] 44 (0,0))).drew:=
   ((((((Turned.refl _ _).setCell (by simp) _).setCell (by simp) _).setCell (by simp) _).alloc _).alloc _).drew
  generalize (((((w.setCell ⟨b4,0,none⟩ (.slice none 0 0)).setCell ⟨b5,0,none⟩ (.int .i64 a)).setCell ⟨b6,0,none⟩ (.int .i64 c)).alloc (.cells #[.int .i64 a,.int .i64 c] 139 (0,0))).alloc (.cells #[.slice none 0 0] 44 (0,0))).drew = wf at *
  simp [bodyPostS,results,Tryz.results108,q4,q5,q6,qt]
theorem dfrL_idle (b4 b5 b6:Nat) (w:World) :
  CallsD Tryz.prog 108 #[.pointer (some ⟨b4,0,none⟩),.pointer (some ⟨b5,0,none⟩),.pointer (some ⟨b6,0,none⟩)] .returning w fun e u' w'=>e = .returned (.tuple #[]) ∧ u' = .returning ∧ w' = w:=by
 refine callsD_of_wpS Tryz.func108 rfl fun c₀ cs hu => ?_
 apply wpS_seq
 apply wpS_region
 simp [wpOpsS,go_sem,recoverD,hu,Tryz.ntmps108,Exit.thenS]
 refine wpS_of_wp ?_
 simp only [Array.replicate_succ,Array.replicate_zero,List.push_toArray,List.nil_append,List.cons_append,List.append_toArray,List.setIfInBounds_toArray,List.set_cons_succ,List.set_cons_zero]
 have hnq:∀ w,(binOp .neq 20 .nilIface .nilIface).run Tryz.prog w = .ok (.bool false) w:=fun w=>by kernel_rfl
 go_wp2_with fail
 cases c₀
 simp_all [bodyPostS,results,Tryz.results108]
def DecP (r:Except Flt (List Ent)) (w:World) (e:Ending) (w':World):Prop:=match r with
 | .error p=>e = .returned (.tuple #[.agg #[.slice none 0 0],.int .i64 p.1,.int .i64 p.2]) ∧ Below w.heap.size w w'
 | .ok es=>∃ v,e = .returned (.tuple #[.agg #[v],.int .i64 0,.int .i64 0]) ∧ ERow w' w.heap.size v es ∧ Below w.heap.size w w'
def readD (s:Nm) (R:Except Flt (List Ent × Nat)):Except Flt (List Ent):=if 65536 < s.length then .error (0,1311) else match R with
 | .error p=>.error p
 | .ok (es,a)=>if a < s.length then .error (a,1310) else .ok es
set_option maxHeartbeats 4000000 in
theorem readL_any (s:Nm) (R:Except Flt (List Ent × Nat)) (w:World) (hs:s.length ≤ 1000000000000000000) (hf:∀ (q:Nat) (W:World),W.heap[q]? = some (RdO s 0) → s.length ≤ 65536 → Calls Tryz.prog 78 #[PP q] W (LayP q s R W)) :
  Calls Tryz.prog 77 #[sv s,.func (.func 78) #[] #[]] w (DecP (readD s R) w):=by
 have z:=str_size s
 have HF:=Lib.hid hf
 have hmf:∀ (fn:Fn) (first cap:Array Value) (w:World),(Instr.makeFunc fn first cap).run Tryz.prog w = .ok (.func fn first cap) w:=fun _ _ _ _=>rfl
 clear hf
 go_enter_defers Tryz.func77,Tryz.ntmps77
 go_wp2_with fail
 have e1:(w.alloc (.cells #[.slice none 0 0] 44 (0,0))).heap.size = w.heap.size + 1:=by simp
 have e2:((w.alloc (.cells #[.slice none 0 0] 44 (0,0))).alloc (.cells #[.int .i64 0] 3 (0,0))).heap.size = w.heap.size + 1 + 1:=by simp
 have H4:=Lib.hid (blk_old (blk_old (blk_new w (.cells #[.slice none 0 0] 44 (0,0))) (.cells #[.int .i64 0] 3 (0,0))) (.cells #[.int .i64 0] 26 (0,0)))
 have H5:=Lib.hid (blk_old (blk_new (w.alloc (.cells #[.slice none 0 0] 44 (0,0))) (.cells #[.int .i64 0] 3 (0,0))) (.cells #[.int .i64 0] 26 (0,0)))
 have H6:=Lib.hid (blk_new ((w.alloc (.cells #[.slice none 0 0] 44 (0,0))).alloc (.cells #[.int .i64 0] 3 (0,0))) (.cells #[.int .i64 0] 26 (0,0)))
 rw [e1] at H5
 rw [e2] at H6
 have HB:Hid (Below w.heap.size w (((w.alloc (.cells #[.slice none 0 0] 44 (0,0))).alloc (.cells #[.int .i64 0] 3 (0,0))).alloc (.cells #[.int .i64 0] 26 (0,0)))):=(((Below.refl _ _).alloc (Nat.le_refl _) _).alloc (by simp) _).alloc (by simp;omega) _
 clear e1 e2
 change Calls _ _ _ (((w.alloc (.cells #[.slice none 0 0] 44 (0,0))).alloc (.cells #[.int .i64 0] 3 (0,0))).alloc (.cells #[.int .i64 0] 26 (0,0))) _
 generalize (((w.alloc (.cells #[.slice none 0 0] 44 (0,0))).alloc (.cells #[.int .i64 0] 3 (0,0))).alloc (.cells #[.int .i64 0] 26 (0,0))) = w1 at *
 by_cases hbig:65536 < s.length
 ·have hd:decide ((65536:Int) < (s.length:Int)) = true:=decide_eq_true (by omega)
  have HR:Hid (readD s R = .error (0,1311)):=by unfold Hid readD;rw [if_pos hbig]
  rw [hd]
  refine (fail_yes 0 1311 _).mono ?_;rintro e w' ⟨rfl,rfl⟩
  go_wp2_with fail
  refine leaves_cons (f:=108) (args := #[.pointer (some ⟨w.heap.size,0,none⟩),.pointer (some ⟨w.heap.size + 1,0,none⟩),.pointer (some ⟨w.heap.size + 1 + 1,0,none⟩)]) (by simp) (by simp [go_sem]) ?_
  refine (dfrL_panic _ _ _ _ 0 0 0 1311 w1 H4.out H5.out H6.out (by omega) (by omega) (by omega)).mono ?_
  rintro e u' w3 ⟨rfl,rfl,h4,h5,h6,ht⟩
  have c4:=blk_cell h4 0
  have c5:=blk_cell h5 0
  have c6:=blk_cell h6 0
  simp only [List.getElem?_toArray,List.getElem?_cons_zero] at c4 c5 c6
  refine ⟨.tuple #[.agg #[.slice none 0 0],.int .i64 0,.int .i64 1311],by simp [results,Tryz.results77,go_sem,c4,c5,c6],?_⟩
  rw [HR.out]
  exact ⟨rfl,HB.out.trans (ht.below HB.out.size (by simp;omega))⟩
 ·have hd:decide ((65536:Int) < (s.length:Int)) = false:=decide_eq_false (by omega)
  have hsm:s.length ≤ 65536:=by omega
  have hl6:=blk_lt H6.out
  rw [hd]
  refine (fail_no 0 1311 _).mono ?_;rintro e w' ⟨rfl,rfl⟩
  clear hd
  have HRD:=Lib.hid (blk_new w1 (RdO s 0))
  have HB1:Hid (Below w.heap.size w (w1.alloc (RdO s 0))):=HB.out.alloc HB.out.size _
  have K4:=Lib.hid (blk_old H4.out (RdO s 0))
  have K5:=Lib.hid (blk_old H5.out (RdO s 0))
  have K6:=Lib.hid (blk_old H6.out (RdO s 0))
  clear H4 H5 H6 HB
  go_wp2_with fail
  refine (HF.out w1.heap.size _ HRD.out hsm).mono ?_
  intro e w2 hp
  have hszb:=HB1.out.size
  cases R with
  | error p =>
   have HR:Hid (readD s (.error p) = .error p):=by unfold Hid readD;rw [if_neg hbig]
   obtain ⟨rfl,ht⟩:=hp
   have h4:=ht.kept K4.out (by simp;omega)
   have h5:=ht.kept K5.out (by simp;omega)
   have h6:=ht.kept K6.out (by simp;omega)
   have HB2:Hid (Below w.heap.size w w2):=HB1.out.trans (ht.below HB1.out.size (by simp;omega))
   clear ht
   go_wp2_with fail
   refine leaves_cons (f:=108) (args := #[.pointer (some ⟨w.heap.size,0,none⟩),.pointer (some ⟨w.heap.size + 1,0,none⟩),.pointer (some ⟨w.heap.size + 1 + 1,0,none⟩)]) (by simp) (by simp [go_sem]) ?_
   refine (dfrL_panic _ _ _ _ 0 0 p.1 p.2 w2 h4 h5 h6 (by omega) (by omega) (by omega)).mono ?_
   rintro e u' w9 ⟨rfl,rfl,h4,h5,h6,ht⟩
   have c4:=blk_cell h4 0
   have c5:=blk_cell h5 0
   have c6:=blk_cell h6 0
   simp only [List.getElem?_toArray,List.getElem?_cons_zero] at c4 c5 c6
   refine ⟨.tuple #[.agg #[.slice none 0 0],.int .i64 p.1,.int .i64 p.2],by simp [results,Tryz.results77,go_sem,c4,c5,c6],?_⟩
   rw [HR.out]
   exact ⟨rfl,HB2.out.trans (ht.below HB2.out.size (by simp;omega))⟩
  | ok r =>
   obtain ⟨es,a⟩:=r
   obtain ⟨v,rfl,hrow,hq,ht⟩:=hp
   obtain ⟨A,gb,c,rfl,-⟩:=hrow.slice
   have h4:=ht.kept K4.out (by simp;omega)
   have h5:=ht.kept K5.out (by simp;omega)
   have h6:=ht.kept K6.out (by simp;omega)
   have HB2:Hid (Below w.heap.size w w2):=HB1.out.trans (ht.below HB1.out.size (by simp;omega))
   have c4:=blk_cell h4 0
   have f4:=blk_free h4 0
   have l4:=blk_lt h4
   simp only [List.getElem?_toArray,List.getElem?_cons_zero] at c4
   go_upto_region 5 with fail
   change Code.wp _ _ _ _ (w2.setCell ⟨w.heap.size,0,none⟩ (.slice A es.length c))
   have M4:Hid ((w2.setCell ⟨w.heap.size,0,none⟩ (.slice A es.length c)).heap[w.heap.size]? = some (.cells #[.slice A es.length c] 44 (0,0))):=by have:=blk_set h4 0 (.slice A es.length c);exact this
   have M5:Hid ((w2.setCell ⟨w.heap.size,0,none⟩ (.slice A es.length c)).heap[w.heap.size + 1]? = some (.cells #[.int .i64 0] 3 (0,0))):=(blk_other (by omega) 0 _).trans h5
   have M6:Hid ((w2.setCell ⟨w.heap.size,0,none⟩ (.slice A es.length c)).heap[w.heap.size + 1 + 1]? = some (.cells #[.int .i64 0] 26 (0,0))):=(blk_other (by omega) 0 _).trans h6
   have MQ:Hid ((w2.setCell ⟨w.heap.size,0,none⟩ (.slice A es.length c)).heap[w1.heap.size]? = some (RdO s a)):=(blk_other (by omega) 0 _).trans hq
   have MB:Hid (Below w.heap.size w (w2.setCell ⟨w.heap.size,0,none⟩ (.slice A es.length c))):=HB2.out.setCell (by simp) _
   have MR:Hid (ERow (w2.setCell ⟨w.heap.size,0,none⟩ (.slice A es.length c)) (w1.alloc (RdO s 0)).heap.size (.slice A es.length c) es):=hrow.turned ((Turned.refl [w.heap.size] _).setCell (by simp) _) (fun g hg hm=>by
    have k1:=(hrow.lt g hg).1
    have k2:g = w.heap.size:=by simpa using hm
    simp at k1
    omega)
   have hgs:w1.heap.size + 1 = (w1.alloc (RdO s 0)).heap.size:=by simp
   rw [← hgs] at MR
   generalize (w2.setCell ⟨w.heap.size,0,none⟩ (.slice A es.length c)) = w3 at *
   generalize w1.heap.size = q at *
   clear h4 h5 h6 c4 f4 l4 hrow hq ht HB2 hgs HB1 K4 K5 K6 HRD HF hszb
   have r1:=blk_cell MQ.out 1
   have rl:=blk_lt MQ.out
   simp only [List.getElem?_toArray,List.getElem?_cons_zero,List.getElem?_cons_succ] at r1
   by_cases ha:a < s.length
   ·have HR:Hid (readD s (.ok (es,a)) = .error (a,1310)):=by unfold Hid readD;rw [if_neg hbig];exact if_pos ha
    have d1:decide ((a:Int) < (s.length:Int)) = true:=decide_eq_true (by omega)
    have MBd:Hid (Below w.heap.size w w3.drew):=MB.out.drew
    go_still_tail 11,(by kernel_rfl)
    change wpList _ _ _ _ _ w3.drew
    go_wp2_with fail
    refine (fail_yes a 1310 _).mono ?_;rintro e w' ⟨rfl,rfl⟩
    go_wp2_with fail
    refine leaves_cons (f:=108) (args := #[.pointer (some ⟨w.heap.size,0,none⟩),.pointer (some ⟨w.heap.size + 1,0,none⟩),.pointer (some ⟨w.heap.size + 1 + 1,0,none⟩)]) (by simp) (by simp [go_sem]) ?_
    refine (dfrL_panic _ _ _ _ 0 0 a 1310 w3.drew M4.out M5.out M6.out (by omega) (by omega) (by omega)).mono ?_
    rintro e u' w9 ⟨rfl,rfl,h4,h5,h6,ht⟩
    have c4:=blk_cell h4 0
    have c5:=blk_cell h5 0
    have c6:=blk_cell h6 0
    simp only [List.getElem?_toArray,List.getElem?_cons_zero] at c4 c5 c6
    refine ⟨.tuple #[.agg #[.slice none 0 0],.int .i64 a,.int .i64 1310],by simp [results,Tryz.results77,go_sem,c4,c5,c6],?_⟩
    rw [HR.out]
    exact ⟨rfl,MBd.out.trans (ht.below MBd.out.size (by simp;omega))⟩
   ·have HR:Hid (readD s (.ok (es,a)) = .ok es):=by unfold Hid readD;rw [if_neg hbig];exact if_neg ha
    have d1:decide ((a:Int) < (s.length:Int)) = false:=decide_eq_false (by omega)
    go_still_tail 11,(by kernel_rfl)
    change wpList _ _ _ _ _ w3.drew
    go_wp2_with fail
    refine (fail_no a 1310 _).mono ?_;rintro e w' ⟨rfl,rfl⟩
    have c4:=blk_cell M4.out 0
    have c5:=blk_cell M5.out 0
    have c6:=blk_cell M6.out 0
    have f4:=blk_free M4.out 0
    have f5:=blk_free M5.out 0
    have f6:=blk_free M6.out 0
    have l4:=blk_lt M4.out
    have l5:=blk_lt M5.out
    have l6:=blk_lt M6.out
    simp only [List.getElem?_toArray,List.getElem?_cons_zero] at c4 c5 c6
    go_wp2_with fail
    refine leaves_cons (f:=108) (args := #[.pointer (some ⟨w.heap.size,0,none⟩),.pointer (some ⟨w.heap.size + 1,0,none⟩),.pointer (some ⟨w.heap.size + 1 + 1,0,none⟩)]) (by simp) (by simp [go_sem]) ?_
    refine (dfrL_idle _ _ _ _).mono ?_
    rintro e u' w9 ⟨rfl,rfl,rfl⟩
    refine ⟨.tuple #[.agg #[.slice A es.length c],.int .i64 0,.int .i64 0],by simp [results,Tryz.results77,go_sem,c4,c5,c6],?_⟩
    rw [HR.out]
    refine ⟨_,rfl,?_,?_⟩
    ·refine ERow.base (b:=q + 1) (ERow.turned (S := [w.heap.size,w.heap.size + 1,w.heap.size + 1 + 1]) MR.out ((((Turned.refl _ _).drew.setCell (by simp) _).setCell (by simp) _).setCell (by simp) _) (fun g hg hm => ?_)) (by omega)
     have k1:=(MR.out.lt g hg).1
     simp at hm
     omega
    ·exact (((MB.out.drew.setCell (by simp) _).setCell (by simp) _).setCell (by simp;omega) _)
end Go.Proofs.YtifhnpkapgaboaaGreat.arch
