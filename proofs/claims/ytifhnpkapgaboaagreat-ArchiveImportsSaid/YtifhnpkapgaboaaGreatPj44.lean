/-
  Proved: what the document's DecodeImage does. Conditions: as each theorem says.
-/
import Derived.Test.YtifhnpkapgaboaaGreatPj43
import Derived.Test.YtifhnpkapgaboaaGreatPj39
set_option linter.unusedVariables false
set_option linter.unusedSimpArgs false
namespace Go.Proofs.YtifhnpkapgaboaaGreat.arch
open Go.RowKit
open heap
open path (sv str_size cleanB cleanR belowB)
open fld (Fld applyF Sk apply_sk tur_new)
open doc (pV bO DM TreeP allB mem_allB Rel PutO rootN)
set_option maxRecDepth 100000
theorem rend_dead (q:Nat) (s:Nm) (a:Nat) (c b:Int) (w:World) (h:w.heap[q]? = some (RbO s a c b)) (hc:c ≠ 0) :
  Calls Tryz.prog 49 #[PP q] w (RbP q s (.tuple #[]) a c b w):=by
 have c2:=blk_cell h 2
 have hl:=blk_lt h
 simp only [List.getElem?_toArray,List.getElem?_cons_zero,List.getElem?_cons_succ] at c2
 have H:=Lib.hid h
 have d1:(c == 0) = false:=by rw [beq_eq_false_iff_ne];exact hc
 clear h hc
 go_enter Tryz.func49,Tryz.ntmps49
 go_wp2_with fail
 go_quiet (fail)
 go_wp2_with fail
 go_end0
 exact RbP.dead H.out (below_drewN (Below.refl _ _) _)
theorem rend_short (q:Nat) (s:Nm) (a:Nat) (b:Int) (w:World) (h:w.heap[q]? = some (RbO s a 0 b)) (ha:a < s.length) :
  Calls Tryz.prog 49 #[PP q] w (RbP q s (.tuple #[]) a 1310 a w):=by
 have z:=str_size s
 have c0:=blk_cell h 0
 have c1:=blk_cell h 1
 have c2:=blk_cell h 2
 have hl:=blk_lt h
 simp only [List.getElem?_toArray,List.getElem?_cons_zero,List.getElem?_cons_succ] at c0 c1 c2
 have HF:=Lib.hid (fun W (hW:W.heap[q]? = some (RbO s a 0 b))=>fault_live q s a b 1310 a W hW)
 have H:=Lib.hid h
 have d1:decide ((a:Int) < (s.length:Int)) = true:=decide_eq_true (by omega)
 have d1n:decide (a < s.length) = true:=decide_eq_true ha
 clear h ha
 go_enter Tryz.func49,Tryz.ntmps49
 go_wp2_with fail
 go_quiet (fail)
 have H2:=Lib.hid (blk_below H.out (below_drewN (Below.refl _ _) nq))
 have HT2:Hid (Below w.heap.size w (w.drewN nq)):=below_drewN (Below.refl _ _) _
 generalize (w.drewN nq) = w2 at *
 clear c0 c1 c2 hl
 have c1:=blk_cell H2.out 1
 have hl:=blk_lt H2.out
 simp only [List.getElem?_toArray,List.getElem?_cons_zero,List.getElem?_cons_succ] at c1
 go_wp2_with fail
 refine (HF.out _ H2.out).mono ?_;rintro e w3 ⟨rfl,hq,ht⟩
 have HQ:=Lib.hid hq
 have HT3:=Lib.hid ht
 clear hq ht
 go_wp2_with fail
 go_end0
 exact ⟨rfl,HQ.out,(Turned.of_below HT2.out).trans HT3.out⟩
theorem rend_full (q:Nat) (s:Nm) (a:Nat) (b:Int) (w:World) (h:w.heap[q]? = some (RbO s a 0 b)) (ha:¬ a < s.length) :
  Calls Tryz.prog 49 #[PP q] w (RbP q s (.tuple #[]) a 0 b w):=by
 have z:=str_size s
 have c0:=blk_cell h 0
 have c1:=blk_cell h 1
 have c2:=blk_cell h 2
 have hl:=blk_lt h
 simp only [List.getElem?_toArray,List.getElem?_cons_zero,List.getElem?_cons_succ] at c0 c1 c2
 have H:=Lib.hid h
 have d1:decide ((a:Int) < (s.length:Int)) = false:=decide_eq_false (by omega)
 have d1n:decide (a < s.length) = false:=decide_eq_false ha
 clear h ha
 go_enter Tryz.func49,Tryz.ntmps49
 go_wp2_with fail
 go_quiet (fail)
 go_wp2_with fail
 go_end0
 exact RbP.dead H.out (below_drewN (Below.refl _ _) _)
structure DX (w:World) (q bi:Nat) (s:Nm) (a:Nat) (c b:Int) (ls:List (List Ent)) (v:Value) (vs:List Value) (W:World):Prop where
 rd:W.heap[q]? = some (RbO s a c b)
 ib:W.heap[bi]? = some (.cells #[v] 24 (0,0))
 rb:W.heap[w.heap.size]? = some (.cells #[.slice none 0 0] 24 (0,0))
 row:LRow W (bi + 1) v ls vs
 bel:Below w.heap.size w W
 q1:q = w.heap.size + 1
 bi1:q < bi
theorem DX.turn {w W W':World} {q bi a a':Nat} {s:Nm} {c b c' b':Int} {ls:List (List Ent)} {v:Value} {vs:List Value} (h:DX w q bi s a c b ls v vs W) (hq:W'.heap[q]? = some (RbO s a' c' b')) (ht:Turned [q] W W'):DX w q bi s a' c' b' ls v vs W':=by
 have h1:=h.q1
 have h2:=h.bi1
 exact ⟨hq,ht.kept h.ib (by simp;omega),ht.kept h.rb (by simp;omega),h.row.low ht (fun g hg=>by simp at hg;omega),h.bel.trans (ht.below h.bel.size (fun k hk=>by simp at hk;omega)),h1,h2⟩
theorem tree_lrow {W:World} {B t base:Nat} {v:Value} {ls:List (List Ent)} {vs:List Value} {M:DM} (h:TreeP W B t M) (hr:LRow W base v ls vs):∀ u ∈ v :: vs,∀ g ∈ u.ownBlock.toList,g ∉ allB t M:=fun u hu g hg hm=>by
 obtain ⟨-,-,c1,T,k,hT⟩:=hr.lt u hu g hg
 have:=tree_ty h hm k
 rcases hT with rfl | rfl <;> revert this <;> decide
def dmH (S:List Nat) (bi:Nat) (v:Value) (j:Nat):List Nat:=if j = 4 then S else if j = 6 then v.ownBlock.toList else if j = 8 then [bi] else []
theorem dmH_mem {S:List Nat} {bi:Nat} {v:Value} {j b:Nat} (h:b ∈ dmH S bi v j):(j = 4 ∧ b ∈ S) ∨ (j = 6 ∧ b ∈ v.ownBlock.toList) ∨ (j = 8 ∧ b = bi):=by
 unfold dmH at h
 split at h
 ·exact .inl ⟨by assumption,by simpa using h⟩
 ·split at h
  ·exact .inr (.inl ⟨by assumption,h⟩)
  ·split at h
   ·exact .inr (.inr ⟨by assumption,by simpa using h⟩)
   ·simp at h
theorem dmH_sub {S:List Nat} {bi:Nat} {v:Value} {j b:Nat} (h:b ∈ dmH S bi v j):b ∈ bi :: (S ++ v.ownBlock.toList):=by
 rcases dmH_mem h with ⟨_,hb⟩ | ⟨_,hb⟩ | ⟨_,rfl⟩
 ·simp [hb]
 ·simp [hb]
 ·simp
def fnD (s:Nm) (X:Except Flt (List (List Ent) × Nat)):Except Flt (List (List Ent)):=match X with
 | .error p=>.error p
 | .ok (x,a)=>if a < s.length then .error (a,1310) else .ok x
theorem dec_fn {s:Nm} (h:¬ 65536 < s.length):decI s = fnD s (imgG s):=by
 unfold decI readG fnD
 rw [if_neg h]
 cases imgG s <;> rfl
theorem dec_big {s:Nm} (h:65536 < s.length):decI s = .error (0,1311):=by unfold decI readG;rw [if_pos h]
theorem img_no {s:Nm} (h:mkI.isPrefixOf (s.drop 0) = false):imgG s = .error (0,1301):=by
 unfold imgG
 rw [show markD s mkI 0 = .error (0,1301) from if_neg (by rw [h];decide)]
theorem img_cut {s:Nm} (h:mkI.isPrefixOf (s.drop 0) = true) (h4:s.length < 3 + 1):imgG s = .error (s.length,1300):=by
 unfold imgG
 rw [show markD s mkI 0 = .ok ((),3) from if_pos h]
 simp only
 rw [show numD s 3 1 = .error (s.length,1300) from if_pos h4]
theorem img_num {s:Nm} (h:mkI.isPrefixOf (s.drop 0) = true) (h4:¬ s.length < 3 + 1):imgG s = if 12 < (s.getD 3 0).toNat then .error (3,1309) else laysG s (s.getD 3 0).toNat 4 [] F0:=by
 unfold imgG
 rw [show markD s mkI 0 = .ok ((),3) from if_pos h]
 simp only
 rw [show numD s 3 1 = .ok ((s.getD 3 0).toNat,4) from if_neg h4]
set_option maxHeartbeats 16000000 in
theorem rDecodeImage_any (s:Nm) (w:World) (hsl:s.length ≤ 1000000000000000000):Calls Tryz.prog 14 #[sv s] w (DecG GIm (decI s) w):=by
 have z:=str_size s
 obtain ⟨R,hR⟩:∃ R,decI s = R:=⟨_,rfl⟩
 rw [hR]
 have HR:=Lib.hid hR
 clear hR
 have hB0:Below w.heap.size w (w.alloc (.cells #[.slice none 0 0] 24 (0,0))):=(Below.refl _ _).alloc (Nat.le_refl _) _
 have hn0:=blk_new w (.cells #[.slice none 0 0] 24 (0,0))
 have c2:=blk_cell hn0 0
 have f2:=blk_free hn0 0
 have l2:=blk_lt hn0
 simp only [List.getElem?_toArray,List.getElem?_cons_zero] at c2
 have HB0:=Lib.hid hB0
 have HN0:=Lib.hid hn0
 have hk2:=blk_cell (blk_set hn0 0 (.slice none 0 0)) 0
 simp only [List.setIfInBounds_toArray,List.set_cons_zero,List.getElem?_toArray,List.getElem?_cons_zero] at hk2
 clear hB0 hn0
 by_cases h65:65536 < s.length
 ·have hR2:R = .error (0,1311):=by rw [← HR.out];exact dec_big h65
  subst hR2
  have d0:decide ((65536:Int) < (s.length:Int)) = true:=decide_eq_true (by omega)
  clear h65
  go_enter Tryz.func14,Tryz.ntmps14
  go_wp2_with fail
  refine bodyPost_ret (v:=.tuple #[.agg #[.slice none 0 0],.int .i64 0,.int .i64 1311]) (by simp [results,Tryz.results14,go_sem,hk2]) rfl ?_
  exact ⟨rfl,HB0.out⟩
 rw [dec_fn h65] at HR
 have d0:decide ((65536:Int) < (s.length:Int)) = false:=decide_eq_false (by omega)
 have hs:s.length ≤ 65536:=by omega
 have hs2:s.length ≤ 10000000:=by omega
 clear h65 hsl
 cases hpr:mkI.isPrefixOf (s.drop 0) with
 | false =>
  have hR2:R = .error (0,1301):=by rw [← HR.out,img_no hpr];rfl
  subst hR2
  have hsp:decide ((s.length:Int) < 3) = true ∨ (decide ((s.length:Int) < 3) = false ∧ 3 ≤ s.length ∧ sub s 0 3 ≠ mkI):=by
   by_cases h:(s.length:Int) < 3
   ·exact .inl (decide_eq_true h)
   ·refine .inr ⟨decide_eq_false h,by omega,fun e => ?_⟩
    have:mkI <+: s.drop 0:=⟨s.drop (0 + 3),by rw [← e,← drop_sub]⟩
    rw [List.isPrefixOf_iff_prefix.2 this] at hpr
    cases hpr
  clear hpr
  rcases hsp with d1 | ⟨d1,h3,hne⟩
  ·go_enter Tryz.func14,Tryz.ntmps14
   go_wp2_with fail
   refine bodyPost_ret (v:=.tuple #[.agg #[.slice none 0 0],.int .i64 0,.int .i64 1301]) (by simp [results,Tryz.results14,go_sem,hk2]) rfl ?_
   exact ⟨rfl,HB0.out⟩
  ·have hex:(⟨s.toArray⟩:ByteArray).extract 0 3 = ⟨(sub s 0 3).toArray⟩:=by rw [show (3:Nat) = 0 + 3 from rfl,path.cut_str];rfl
   have hneb:(sub s 0 3 == [79,82,73]) = false:=beq_eq_false_iff_ne.2 hne
   generalize sub s 0 3 = s3 at *
   have hi2:(3:Int) ≤ (s.length:Int):=by omega
   clear hne
   go_enter Tryz.func14,Tryz.ntmps14
   go_wp2_with fail
   refine bodyPost_ret (v:=.tuple #[.agg #[.slice none 0 0],.int .i64 0,.int .i64 1301]) (by simp [results,Tryz.results14,go_sem,hk2]) rfl ?_
   exact ⟨rfl,HB0.out⟩
 | true =>
 have h3:3 ≤ s.length:=by have:=mark_len hpr;simp [mkI] at this;omega
 have hsub:sub s 0 3 = mkI:=by
  obtain ⟨r,hr⟩:=List.isPrefixOf_iff_prefix.1 hpr
  unfold sub;rw [← hr];exact List.take_left' rfl
 have hex:(⟨s.toArray⟩:ByteArray).extract 0 3 = ⟨#[79,82,73]⟩:=by rw [show (3:Nat) = 0 + 3 from rfl,path.cut_str];exact congrArg (fun l:Nm=>(⟨l.toArray⟩:ByteArray)) hsub
 have hi2:(3:Int) ≤ (s.length:Int):=by omega
 have d1:decide ((s.length:Int) < 3) = false:=decide_eq_false (by omega)
 have HPR:=Lib.hid hpr
 clear hpr hsub
 have hnr:=blk_new (w.alloc (.cells #[.slice none 0 0] 24 (0,0))) (RbO s 3 0 0)
 rw [World.size_alloc] at hnr
 have HQ0:=Lib.hid hnr
 have HR0:=Lib.hid (blk_old HN0.out (RbO s 3 0 0))
 have HB1:Hid (Below w.heap.size w ((w.alloc (.cells #[.slice none 0 0] 24 (0,0))).alloc (RbO s 3 0 0))):=HB0.out.alloc (by simp) _
 clear hnr
 go_enter Tryz.func14,Tryz.ntmps14
 go_upto_region 6 with fail
 change Code.wp _ _ _ _ ((w.alloc (.cells #[.slice none 0 0] 24 (0,0))).alloc (RbO s 3 0 0))
 generalize ((w.alloc (.cells #[.slice none 0 0] 24 (0,0))).alloc (RbO s 3 0 0)) = W1 at *
 clear c2 f2 l2 hk2 HB0 HN0 hex hi2 d0 d1
 have hst:∃ (m:Nat) (a':Nat) (c b:Int),Calls Tryz.prog 46 #[PP (w.heap.size + 1),.int .i64 1] W1 (RbP (w.heap.size + 1) s (.int .i64 m) a' c b W1) ∧ m < 256 ∧
   ((∃ bn:Nat,c = 1300 ∧ b = bn ∧ R = .error (bn,c) ∧ m = 0) ∨ (c = 0 ∧ a' = 4 ∧ 4 ≤ s.length ∧ b = 0 ∧ Hid (fnD s (if 12 < m then .error (3,1309) else laysG s m 4 [] F0) = R))):=by
  by_cases h4:s.length < 3 + 1
  ·refine ⟨0,3,1300,s.length,rnum_short (w.heap.size + 1) s 3 0 1 W1 HQ0.out h3 hs2 h4,by decide,.inl ⟨s.length,rfl,rfl,?_,rfl⟩⟩
   rw [← HR.out,img_cut HPR.out h4];rfl
  ·refine ⟨(s.getD 3 0).toNat,4,0,0,rnum_ok (w.heap.size + 1) s 3 0 1 W1 HQ0.out hs2 (.inl rfl) (by omega),(s.getD 3 0).toNat_lt,.inr ⟨rfl,rfl,by omega,rfl,?_⟩⟩
   rw [← HR.out,img_num HPR.out h4];rfl
 obtain ⟨m,a1,c1,b1,hcall,hm,hcase⟩:=hst
 have HC:=Lib.hid hcall
 have HCS:=Lib.hid hcase
 clear hcall hcase HR h3
 go_wp2_with fail
 refine HC.out.mono ?_;rintro e w2 ⟨rfl,hq,ht⟩
 have hB2:Below w.heap.size w w2:=HB1.out.trans (ht.below HB1.out.size (fun k hk=>by simp at hk;omega))
 have HR2:=Lib.hid (ht.kept HR0.out (by simp))
 have HB2:=Lib.hid hB2
 have HQ2:=Lib.hid hq
 clear hq ht HC HQ0 HR0 HB1 hB2
 have c2:=blk_cell HQ2.out 2
 have l2:=blk_lt HQ2.out
 have rl:=blk_lt HR2.out
 simp only [List.getElem?_toArray,List.getElem?_cons_zero,List.getElem?_cons_succ] at c2
 rcases HCS.out with ⟨bn,rfl,rfl,hRR,rfl⟩ | ⟨rfl,rfl,h4,rfl,HX⟩
 ·subst hRR
  have HCX:=Lib.hid (show (1300:Int) ≠ 0 by decide)
  have HQX:=HQ2
  have HRX:=HR2
  have HBX:=HB2
  clear HQ2 HR2 HB2 HCS
  obtain ⟨WX,hWX⟩:∃ W,W = w2:=⟨_,rfl⟩
  subst hWX
  go_wp2_with fail
  refine (doc.New_any _).mono ?_;rintro e wN ⟨tr,rb,rfl,-,hb⟩
  have hbx:Below WX.heap.size WX wN:=((Below.refl _ _).alloc (Nat.le_refl _) _).trans (hb.mono (by simp))
  have HQ5:=Lib.hid (blk_below HQX.out hbx)
  have HR5:=Lib.hid (blk_below HRX.out hbx)
  have HB5:Hid (Below w.heap.size w wN):=HBX.out.trans (hbx.mono HBX.out.size)
  clear hb hbx HQX HRX HBX c2 l2 rl
  have c2:=blk_cell HQ5.out 2
  have l2:=blk_lt HQ5.out
  simp only [List.getElem?_toArray,List.getElem?_cons_zero,List.getElem?_cons_succ] at c2
  go_wp2_with fail
  clear c2 l2
  go_loopg [9] 0 (fun kk v9 wr=>v9 = .int .i64 0 ∧ Hid (wr.heap[w.heap.size + 1]? = some (RbO s a1 1300 bn)) ∧ Hid (wr.heap[w.heap.size]? = some (.cells #[.slice none 0 0] 24 (0,0))) ∧ Hid (Below w.heap.size w wr))
  case atStart=>exact ⟨rfl,HQ5,HR5,HB5⟩
  case round =>
   clear HQ5 HR5 HB5
   obtain ⟨rfl,HQ5,HR5,HB5⟩:=hrel
   have c2:=blk_cell HQ5.out 2
   have l2:=blk_lt HQ5.out
   simp only [List.getElem?_toArray,List.getElem?_cons_zero,List.getElem?_cons_succ] at c2
   go_wp2_with fail
   refine (rend_dead (w.heap.size + 1) s a1 1300 bn wr HQ5.out HCX.out).mono ?_;rintro e w6 ⟨rfl,hq,ht⟩
   have HQ6:=Lib.hid hq
   have HR6:=Lib.hid (ht.kept HR5.out (by simp))
   have HB6:Hid (Below w.heap.size w w6):=HB5.out.trans (ht.below HB5.out.size (fun k hk=>by simp at hk;omega))
   clear hq ht HR5 HB5 HQ5 c2 l2
   have c2:=blk_cell HQ6.out 2
   have c3:=blk_cell HQ6.out 3
   have l2:=blk_lt HQ6.out
   have r0:=blk_cell HR6.out 0
   have rf:=blk_free HR6.out 0
   have rl:=blk_lt HR6.out
   simp only [List.getElem?_toArray,List.getElem?_cons_zero,List.getElem?_cons_succ] at c2 c3 r0
   have k2:=blk_cell (w:=(w6.setCell ⟨w.heap.size,0,none⟩ (.slice none 0 0)).drew) (blk_set HR6.out 0 (.slice none 0 0)) 0
   have kl:w.heap.size < (w6.setCell ⟨w.heap.size,0,none⟩ (.slice none 0 0)).drew.heap.size:=by show _ < (w6.setCell _ _).heap.size;simp [World.setCell];exact rl
   have HB7:Hid (Below w.heap.size w (w6.setCell ⟨w.heap.size,0,none⟩ (.slice none 0 0)).drew):=(HB6.out.setCell (Nat.le_refl _) _).drew
   simp only [List.setIfInBounds_toArray,List.set_cons_zero,List.getElem?_toArray,List.getElem?_cons_zero] at k2
   go_upto_region 17 with fail
   go_region
   generalize (w6.setCell ⟨w.heap.size,0,none⟩ (.slice none 0 0)).drew = w7 at *
   clear c2 c3 l2 r0 rf rl
   go_wp2_with fail
   refine bodyPost_ret (v:=.tuple #[.agg #[.slice none 0 0],.int .i64 bn,.int .i64 1300]) (by simp [results,Tryz.results14,go_sem,k2]) rfl ?_
   exact ⟨rfl,HB7.out⟩
 clear HCS
 by_cases h12:12 < m
 ·rw [if_pos h12] at HX
  have d3:decide ((12:Int) < (m:Int)) = true:=decide_eq_true (by omega)
  have d3n:decide (12 < m) = true:=decide_eq_true h12
  have dm:decide ((0:Int) < (m:Int)) = true:=decide_eq_true (by omega)
  have dmn:decide (0 < m) = true:=decide_eq_true (by omega)
  have dmi:(0:Int) < (m:Int):=by omega
  have dmj:0 < m:=by omega
  obtain ⟨b3,hb3⟩:∃ b3:Nat,b3 = 3:=⟨_,rfl⟩
  obtain ⟨a3,ha3⟩:∃ a3:Nat,a3 = 4:=⟨_,rfl⟩
  have hRR:R = .error (b3,1309):=by rw [hb3];exact HX.out.symm
  subst hRR
  clear h12 HX
  go_wp2_with fail
  refine (fault_live (w.heap.size + 1) s 4 0 1309 3 _ HQ2.out).mono ?_;rintro e w3 ⟨rfl,hq,ht⟩
  have HCX:=Lib.hid (show (1309:Int) ≠ 0 by decide)
  have HQX:Hid (w3.heap[w.heap.size + 1]? = some (RbO s a3 1309 b3)):=by rw [hb3,ha3];exact hq
  have HRX:=Lib.hid (ht.kept HR2.out (by simp))
  have HBX:Hid (Below w.heap.size w w3):=HB2.out.trans (ht.below HB2.out.size (fun k hk=>by simp at hk;omega))
  clear hq ht HQ2 HR2 HB2 d3 d3n c2 l2 rl hb3 ha3
  obtain ⟨WX,hWX⟩:∃ W,W = w3:=⟨_,rfl⟩
  subst hWX
  have c2:=blk_cell HQX.out 2
  have l2:=blk_lt HQX.out
  have rl:=blk_lt HRX.out
  simp only [List.getElem?_toArray,List.getElem?_cons_zero,List.getElem?_cons_succ] at c2
  go_wp2_with fail
  refine (doc.New_any _).mono ?_;rintro e wN ⟨tr,rb,rfl,-,hb⟩
  have hbx:Below WX.heap.size WX wN:=((Below.refl _ _).alloc (Nat.le_refl _) _).trans (hb.mono (by simp))
  have HQ5:=Lib.hid (blk_below HQX.out hbx)
  have HR5:=Lib.hid (blk_below HRX.out hbx)
  have HB5:Hid (Below w.heap.size w wN):=HBX.out.trans (hbx.mono HBX.out.size)
  clear hb hbx HQX HRX HBX c2 l2 rl
  have c2:=blk_cell HQ5.out 2
  have l2:=blk_lt HQ5.out
  simp only [List.getElem?_toArray,List.getElem?_cons_zero,List.getElem?_cons_succ] at c2
  go_wp2_with fail
  clear c2 l2
  go_loopg [9] 0 (fun kk v9 wr=>v9 = .int .i64 0 ∧ Hid (wr.heap[w.heap.size + 1]? = some (RbO s a3 1309 b3)) ∧ Hid (wr.heap[w.heap.size]? = some (.cells #[.slice none 0 0] 24 (0,0))) ∧ Hid (Below w.heap.size w wr))
  case atStart=>exact ⟨rfl,HQ5,HR5,HB5⟩
  case round =>
   clear HQ5 HR5 HB5
   obtain ⟨rfl,HQ5,HR5,HB5⟩:=hrel
   have c2:=blk_cell HQ5.out 2
   have l2:=blk_lt HQ5.out
   simp only [List.getElem?_toArray,List.getElem?_cons_zero,List.getElem?_cons_succ] at c2
   go_wp2_with fail
   refine (rend_dead (w.heap.size + 1) s a3 1309 b3 wr HQ5.out HCX.out).mono ?_;rintro e w6 ⟨rfl,hq,ht⟩
   have HQ6:=Lib.hid hq
   have HR6:=Lib.hid (ht.kept HR5.out (by simp))
   have HB6:Hid (Below w.heap.size w w6):=HB5.out.trans (ht.below HB5.out.size (fun k hk=>by simp at hk;omega))
   clear hq ht HR5 HB5 HQ5 c2 l2
   have c2:=blk_cell HQ6.out 2
   have c3:=blk_cell HQ6.out 3
   have l2:=blk_lt HQ6.out
   have r0:=blk_cell HR6.out 0
   have rf:=blk_free HR6.out 0
   have rl:=blk_lt HR6.out
   simp only [List.getElem?_toArray,List.getElem?_cons_zero,List.getElem?_cons_succ] at c2 c3 r0
   have k2:=blk_cell (w:=(w6.setCell ⟨w.heap.size,0,none⟩ (.slice none 0 0)).drew) (blk_set HR6.out 0 (.slice none 0 0)) 0
   have kl:w.heap.size < (w6.setCell ⟨w.heap.size,0,none⟩ (.slice none 0 0)).drew.heap.size:=by show _ < (w6.setCell _ _).heap.size;simp [World.setCell];exact rl
   have HB7:Hid (Below w.heap.size w (w6.setCell ⟨w.heap.size,0,none⟩ (.slice none 0 0)).drew):=(HB6.out.setCell (Nat.le_refl _) _).drew
   simp only [List.setIfInBounds_toArray,List.set_cons_zero,List.getElem?_toArray,List.getElem?_cons_zero] at k2
   go_upto_region 17 with fail
   go_region
   generalize (w6.setCell ⟨w.heap.size,0,none⟩ (.slice none 0 0)).drew = w7 at *
   clear c2 c3 l2 r0 rf rl
   go_wp2_with fail
   refine bodyPost_ret (v:=.tuple #[.agg #[.slice none 0 0],.int .i64 b3,.int .i64 1309]) (by simp [results,Tryz.results14,go_sem,k2]) rfl ?_
   exact ⟨rfl,HB7.out⟩
 rw [if_neg h12] at HX
 have d3n:decide (12 < m) = false:=decide_eq_false h12
 have hm12:m ≤ 12:=by omega
 clear h12
 go_wp2_with fail
 refine (doc.New_any _).mono ?_;rintro e wN ⟨tr,rb,rfl,htp,hb⟩
 have hbx:Below w2.heap.size w2 wN:=((Below.refl _ _).alloc (Nat.le_refl _) _).trans (hb.mono (by simp))
 have hle2:=blk_lt HR2.out
 have hle3:=blk_lt HQ2.out
 have HD5:Hid (DX w (w.heap.size + 1) w2.heap.size s 4 0 0 [] (.slice none 0 0) [] wN):=⟨blk_below HQ2.out hbx,blk_below (blk_new w2 _) hb,blk_below HR2.out hbx,LRow.nil _ _,HB2.out.trans (hbx.mono HB2.out.size),rfl,hle3⟩
 have HT5:Hid (TreeP wN (w2.heap.size + 1) tr [rootN rb]):=by have:=htp;rw [World.size_alloc] at this;exact this
 clear hb hbx htp HQ2 HR2 HB2 c2 l2 rl d3n
 generalize w2.heap.size = bi at *
 go_wp2_with fail
 go_loopg [9] m (fun kk v9 wr=>∃ (a i:Nat) (c b:Int) (ls:List (List Ent)) (v:Value) (vs:List Value),v9 = .int .i64 i ∧ i ≤ m ∧ ls.length = i ∧ Hid (DX w (w.heap.size + 1) bi s a c b ls v vs wr) ∧ ((c ≠ 0 ∧ Hid (∃ bn:Nat,b = bn ∧ R = .error (bn,c))) ∨ (c = 0 ∧ kk + i = m ∧ a ≤ s.length ∧ ∃ F G M,Hid (TreeP wr (bi + 1) tr M) ∧ Hid (Rel G M) ∧ Hid (Sk F G) ∧ M.length ≤ 1 + 256 * i ∧ Hid (fnD s (laysG s kk a ls F) = R))))
 case atStart=>exact ⟨4,0,0,0,[],_,_,rfl,by omega,rfl,HD5,.inr ⟨rfl,by omega,h4,F0,F0,_,HT5,Rel.new rb,Sk.refl _,by simp,HX⟩⟩
 case round =>
  clear HD5 HT5 HX h4
  obtain ⟨a,i,c,b,ls,v,vs,rfl,him,hil,HD,hcase⟩:=hrel
  have c2:=blk_cell HD.out.rd 2
  have l2:=blk_lt HD.out.rd
  have i0:=blk_cell HD.out.ib 0
  have il:=blk_lt HD.out.ib
  simp only [List.getElem?_toArray,List.getElem?_cons_zero,List.getElem?_cons_succ] at c2 i0
  rcases hcase with ⟨hc,HE⟩ | ⟨rfl,hki,hal,F,G,M,HT,HRL,HS,hML,HX⟩
  ·obtain ⟨bn,rfl,hRR⟩:=HE.out
   subst hRR
   have HCX:=Lib.hid hc
   have hc0:(c == 0) = false:=beq_eq_false_iff_ne.2 hc
   have hc1:(c != 0) = true:=by simp [bne,hc]
   have hlm:decide ((i:Int) < (m:Int)) = true ∨ decide ((i:Int) < (m:Int)) = false:=by cases decide ((i:Int) < (m:Int)) <;> simp
   have hlmn:decide (i < m) = decide ((i:Int) < (m:Int)):=by rw [decide_eq_decide];omega
   clear hc HE
   rcases hlm with hl1 | hl1
   all_goals
    rw [hl1] at hlmn
    go_wp2_with fail
    refine (rend_dead (w.heap.size + 1) s a c bn wr HD.out.rd HCX.out).mono ?_;rintro e w6 ⟨rfl,hq,ht⟩
    have HQ6:=Lib.hid hq
    have HR6:=Lib.hid (ht.kept HD.out.rb (by simp))
    have HB6:Hid (Below w.heap.size w w6):=HD.out.bel.trans (ht.below HD.out.bel.size (fun k hk=>by simp at hk;omega))
    clear hq ht HD c2 l2 i0 il hl1 hlmn
    have c2:=blk_cell HQ6.out 2
    have c3:=blk_cell HQ6.out 3
    have l2:=blk_lt HQ6.out
    have r0:=blk_cell HR6.out 0
    have rf:=blk_free HR6.out 0
    have rl:=blk_lt HR6.out
    simp only [List.getElem?_toArray,List.getElem?_cons_zero,List.getElem?_cons_succ] at c2 c3 r0
    have k2:=blk_cell (w:=(w6.setCell ⟨w.heap.size,0,none⟩ (.slice none 0 0)).drew) (blk_set HR6.out 0 (.slice none 0 0)) 0
    have kl:w.heap.size < (w6.setCell ⟨w.heap.size,0,none⟩ (.slice none 0 0)).drew.heap.size:=by show _ < (w6.setCell _ _).heap.size;simp [World.setCell];exact rl
    have HB7:Hid (Below w.heap.size w (w6.setCell ⟨w.heap.size,0,none⟩ (.slice none 0 0)).drew):=(HB6.out.setCell (Nat.le_refl _) _).drew
    simp only [List.setIfInBounds_toArray,List.set_cons_zero,List.getElem?_toArray,List.getElem?_cons_zero] at k2
    go_upto_region 17 with fail
    go_region
    generalize (w6.setCell ⟨w.heap.size,0,none⟩ (.slice none 0 0)).drew = w7 at *
    clear c2 c3 l2 r0 rf rl
    go_wp2_with fail
    refine bodyPost_ret (v:=.tuple #[.agg #[.slice none 0 0],.int .i64 bn,.int .i64 c]) (by simp [results,Tryz.results14,go_sem,k2]) rfl ?_
    exact ⟨rfl,HB7.out⟩
  ·obtain ⟨Av,g0,cv,rfl,hlc,hlcm,hAv,-⟩:=HD.out.row.slice
   clear hAv
   by_cases hlt:i < m
   ·cases gk with
    | zero=>omega
    | succ gk =>
    have HX2:=HX.out
    rw [laysG] at HX2
    have HLL:=Lib.hid HX2
    clear HX2 HX
    have dl1:decide ((i:Int) < (m:Int)) = true:=decide_eq_true (by omega)
    have dl2:decide (i < m) = true:=decide_eq_true hlt
    have hq1:=HD.out.q1
    have hbi:=HD.out.bi1
    have hrows:=HD.out.row.lt
    have hrowt:=tree_lrow HT.out HD.out.row
    have hvm:∀ g ∈ (Value.slice Av ls.length cv).ownBlock.toList,bi + 1 ≤ g ∧ g < wr.heap.size ∧ g ∉ allB tr M:=fun g hg=>⟨(hrows _ (List.mem_cons_self ..) g hg).1,(hrows _ (List.mem_cons_self ..) g hg).2.1,hrowt _ (List.mem_cons_self ..) g hg⟩
    have htl:∀ g ∈ allB tr M,bi + 1 ≤ g ∧ g < wr.heap.size:=fun g hg=>HT.out.lt hg
    have FQ:∀ j,j ≠ 4 → w.heap.size + 1 ∉ dmH ((w.heap.size + 1) :: allB tr M) bi (.slice Av ls.length cv) j:=fun j hj hm=>by
     rcases dmH_mem hm with ⟨k1,k2⟩ | ⟨k1,k2⟩ | ⟨k1,k2⟩
     ·exact hj k1
     ·have:=(hvm _ k2).1;omega
     ·omega
    have FT:∀ j,j ≠ 4 → ∀ g ∈ allB tr M,g ∉ dmH ((w.heap.size + 1) :: allB tr M) bi (.slice Av ls.length cv) j:=fun j hj g hg hm=>by
     rcases dmH_mem hm with ⟨k1,k2⟩ | ⟨k1,k2⟩ | ⟨k1,k2⟩
     ·exact hj k1
     ·exact (hvm _ k2).2.2 hg
     ·have:=(htl g hg).1;omega
    have FB:∀ j,j ≠ 8 → bi ∉ dmH ((w.heap.size + 1) :: allB tr M) bi (.slice Av ls.length cv) j:=fun j hj hm=>by
     rcases dmH_mem hm with ⟨k1,k2⟩ | ⟨k1,k2⟩ | ⟨k1,k2⟩
     ·rcases List.mem_cons.1 k2 with e | e
      ·omega
      ·have:=(htl _ e).1;omega
     ·have:=(hvm _ k2).1;omega
     ·exact hj k1
    have FV:∀ j,j ≠ 6 → ∀ u ∈ Value.slice Av ls.length cv :: vs,∀ g ∈ u.ownBlock.toList,g ∉ dmH ((w.heap.size + 1) :: allB tr M) bi (.slice Av ls.length cv) j:=fun j hj u hu g hg hm=>by
     have g1:=(hrows u hu g hg).1
     rcases dmH_mem hm with ⟨k1,k2⟩ | ⟨k1,k2⟩ | ⟨k1,k2⟩
     ·rcases List.mem_cons.1 k2 with e | e
      ·omega
      ·exact hrowt u hu g hg e
     ·exact hj k1
     ·omega
    have FN:∀ j g,wr.heap.size ≤ g → g ∉ dmH ((w.heap.size + 1) :: allB tr M) bi (.slice Av ls.length cv) j:=fun j g hgl hm=>by
     rcases dmH_mem hm with ⟨k1,k2⟩ | ⟨k1,k2⟩ | ⟨k1,k2⟩
     ·rcases List.mem_cons.1 k2 with e | e
      ·omega
      ·have:=(htl _ e).2;omega
     ·have:=(hvm _ k2).2.1;omega
     ·omega
    have FM:∀ (M':DM) j,j ≠ 4 → (∀ g ∈ allB tr M',g ∈ allB tr M ∨ wr.heap.size ≤ g) → ∀ g ∈ allB tr M',g ∉ dmH ((w.heap.size + 1) :: allB tr M) bi (.slice Av ls.length cv) j:=fun M' j hj hn g hg=>by
     rcases hn g hg with h1 | h1
     ·exact FT j hj g h1
     ·exact FN j g h1
    have HBX:Hid (∀ W',Turned (bi :: (((w.heap.size + 1) :: allB tr M) ++ (Value.slice Av ls.length cv).ownBlock.toList)) wr W' → Below w.heap.size w W'):=fun W' hx=>HD.out.bel.trans (hx.below HD.out.bel.size (fun k hk=>by
     rcases List.mem_cons.1 hk with e | hk
     ·omega
     ·rcases List.mem_append.1 hk with hk | hk
      ·rcases List.mem_cons.1 hk with e | e
       ·omega
       ·have:=(htl _ e).1;omega
      ·have:=(hvm _ hk).1;omega))
    have hll:ls.length ≤ 5864062014800:=by omega
    go_wp2_with fail
    cases hen:layerG s a F with
    | error p =>
     have hRR:R = .error p:=by
      have:=HLL.out
      rw [hen] at this
      exact this.symm
     subst hRR
     clear HLL
     refine reg.region_eachG (by kernel_rfl) ((fun rj w1 w2=>heap.Turned (dmH ((w.heap.size + 1) :: allB tr M) bi (.slice Av ls.length cv) rj) w1 w2)) (fun w'=>Turned (bi :: (((w.heap.size + 1) :: allB tr M) ++ (Value.slice Av ls.length cv).ownBlock.toList)) wr w') (fun ri v w'=>match ri with
       | 0=>v = .pointer (some ⟨bi,0,none⟩)
       | 1=>v = .slice Av ls.length cv
       | 2=>v = PP (w.heap.size + 1)
       | 3=>v = pV tr
       | 4=>(∃ u es,v = .agg #[u] ∧ ERow w' wr.heap.size u es) ∧ p.2 ≠ 0 ∧ ∃ a',w'.heap[w.heap.size + 1]? = some (RbO s a' p.2 p.1)
       | 5=>∃ h1 u es,v = .slice (some ⟨h1,0,none⟩) 1 1 ∧ wr.heap.size ≤ h1 ∧ w'.heap[h1]? = some (.cells #[u] 44 (0,0)) ∧ ERow w' wr.heap.size u es
       | 6=>∃ g cap u es,v = .slice (some ⟨g,0,none⟩) (ls.length + 1) cap ∧ LRow w' (bi + 1) v (ls ++ [es]) (vs ++ [u]) ∧ ∀ x ∈ v :: (vs ++ [u]),∀ g ∈ x.ownBlock.toList,g ≠ bi
       | 7=>v = .pointer (some ⟨bi,0,none⟩)
       | 8=>∃ x vs' es,w'.heap[bi]? = some (.cells #[x] 24 (0,0)) ∧ LRow w' (bi + 1) x (ls ++ [es]) vs'
       | _=>True) (fun rk w'=>match rk with
       | 4=>w'.heap[w.heap.size + 1]? = some (RbO s a 0 b) ∧ TreeP w' (bi + 1) tr M
       | 6=>LRow w' (bi + 1) (.slice Av ls.length cv) ls vs
       | 8=>w'.heap[bi]? = some (.cells #[.slice Av ls.length cv] 24 (0,0))
       | _=>True) ?_ ?_ ?_ ?_ ?_ (by kernel_rfl) ?_ ?_
     ·exact (Turned.refl _ _).drew
     ·
      intro k
      split <;> first | trivial | (first | exact ⟨HD.out.rd,HT.out.turned (Turned.refl [] _).drew (by simp)⟩ | exact HD.out.row.low (Turned.refl [] _).drew (by simp) | exact HD.out.ib)
     ·
      intro j w1 w2 h hx
      exact h.trans (hx.mono (fun x hm=>dmH_sub hm))
     ·
      intro j i v w1 w2 hij hj hr h hx
      rcases i with _|_|_|_|_|_|_|_|_|i
      ·exact h
      ·exact h
      ·exact h
      ·exact h
      ·(obtain ⟨⟨u,es,k1,k2⟩,k3,a',k4⟩:=h;exact ⟨⟨u,es,k1,k2.turned hx (fun g hg'=>FN _ g (k2.lt g hg').1)⟩,k3,a',hx.kept k4 (FQ _ hij.symm)⟩)
      ·(obtain ⟨h1,u,es,k1,k2,k3,k4⟩:=h;exact ⟨h1,u,es,k1,k2,hx.kept k3 (FN _ h1 k2),k4.turned hx (fun g hg'=>FN _ g (k4.lt g hg').1)⟩)
      ·(obtain ⟨g,cap,u,es,k1,k2,k3⟩:=h;exact ⟨g,cap,u,es,k1,k2.turned hx (fun x hx' g' hg' hm=>by rcases dmH_mem hm with ⟨m1,m2⟩ | ⟨m1,m2⟩ | ⟨m1,m2⟩ <;> first | (subst m1;exact Bool.noConfusion (hr.symm.trans (show reg.reaches _ _ 6 4 = true by kernel_rfl))) | exact hij m1.symm | exact k3 x hx' g' hg' m2),k3⟩)
      ·exact h
      ·exact (reg.last_no (by kernel_rfl) hij hj hr).elim
      ·trivial
     ·
      intro j k w1 w2 hkj h hx
      split at h <;> first | exact h | exact ⟨hx.kept h.1 (FQ _ hkj.symm),h.2.turned hx (FT _ hkj.symm)⟩ | exact LRow.turned h hx (FV _ hkj.symm) | exact hx.kept h (FB _ hkj.symm)
     ·
      refine ⟨?_,?_,?_,?_,?_,?_,?_,?_,?_,trivial⟩
      ·-- 0: slot 52:=Op.fieldAddr 24 t7 0
       intro ra w' hx hg hs
       have s7:ra.eval (.tmp 7) = .pointer (some ⟨bi,0,none⟩):=hs.1
       clear hs
       change Oper.wp _ _ ra w' _ _
       refine reg.wp_value (v:=.pointer (some ⟨bi,0,none⟩)) (w':=w') ?_ ⟨_,rfl,heap.Turned.refl _ _,rfl⟩
       intro ρ rc rf rg re
       rw [re] at s7
       simp [execOp,go_sem,rc,rf,rg,s7] <;> first | omega | rfl | decide
      ·-- 1: slot 53:=Op.load 22 t52
       intro ra w' hx hg hs
       have s52:ra.eval (.tmp 52) = .pointer (some ⟨bi,0,none⟩):=hs.1
       clear hs
       change Oper.wp _ _ ra w' _ _
       have hc0:=blk_cell (hg 8 rfl) 0
       refine reg.wp_value (v:=.slice Av ls.length cv) (w':=w') ?_ ⟨_,rfl,heap.Turned.refl _ _,rfl⟩
       intro ρ rc rf rg re
       rw [re] at s52
       simp [execOp,go_sem,rc,rf,rg,s52,hc0] <;> first | omega | rfl | decide
      ·-- 2: slot 54:=Op.move t5
       intro ra w' hx hg hs
       have s5:ra.eval (.tmp 5) = PP (w.heap.size + 1):=hs.1
       clear hs
       change Oper.wp _ _ ra w' _ _
       refine reg.wp_value (v:=PP (w.heap.size + 1)) (w':=w') ?_ ⟨_,rfl,heap.Turned.refl _ _,rfl⟩
       intro ρ rc rf rg re
       rw [re] at s5
       simp [execOp,go_sem,rc,rf,rg,s5] <;> first | omega | rfl | decide
      ·-- 3: slot 55:=Op.move t8
       intro ra w' hx hg hs
       have s8:ra.eval (.tmp 8) = pV tr:=hs.1
       clear hs
       change Oper.wp _ _ ra w' _ _
       refine reg.wp_value (v:=pV tr) (w':=w') ?_ ⟨_,rfl,heap.Turned.refl _ _,rfl⟩
       intro ρ rc rf rg re
       rw [re] at s8
       simp [execOp,go_sem,rc,rf,rg,s8] <;> first | omega | rfl | decide
      ·-- 4: slot 56:=Op.call { value (Operand.func 48),args := #[t54,t55],argTypes := #[91,52] }
       intro ra w' hx hg hs
       have s54:ra.eval (.tmp 54) = PP (w.heap.size + 1):=hs.1
       have s55:ra.eval (.tmp 55) = pV tr:=hs.2.1
       clear hs
       change Oper.wp _ _ ra w' _ _
       have HE:=rlayer_any (w.heap.size + 1) (bi + 1) tr F G M s a b w' (hg 4 rfl).1 (hg 4 rfl).2 HRL.out HS.out (by omega) hal hs
       rw [hen] at HE
       refine reg.wp_call (f:=48) (args := #[PP (w.heap.size + 1),pV tr]) (w':=w') ?_ (HE.mono ?_)
       ·intro ρ rc rf rg re
        rw [re] at s54 s55
        simp [execOp,go_sem,rc,rf,rg,s54,s55] <;> first | omega | rfl | decide
       rintro e w3 ⟨u,es,a',rfl,hr,hq,hp2,ht,hel⟩
       exact ⟨_,rfl,_,rfl,ht,⟨u,es,rfl,ERow.base hr hx.size⟩,hp2,a',hq⟩
      ·-- 5: slot 57:=Op.buildSlice 22 1 #[(0,t56)]
       intro ra w' hx hg hs
       have s56:(∃ u es,(ra.eval (.tmp 56)) = .agg #[u] ∧ ERow w' wr.heap.size u es) ∧ p.2 ≠ 0 ∧ ∃ a',w'.heap[w.heap.size + 1]? = some (RbO s a' p.2 p.1):=hs.1
       clear hs
       change Oper.wp _ _ ra w' _ _
       obtain ⟨⟨u,es,hv,hr⟩,-⟩:=s56
       obtain ⟨Au,gu,cu,rfl,-⟩:=hr.slice
       refine reg.wp_value (v:=.slice (some ⟨w'.heap.size,0,none⟩) 1 1) (w':=w'.alloc (.cells #[.slice Au es.length cu] 44 (0,0))) ?_ ⟨_,rfl,(heap.Turned.refl _ _).alloc _,_,_,es,rfl,hx.size,blk_new _ _,hr.below ((Below.refl _ _).alloc (Nat.le_refl _) _)⟩
       intro ρ rc rf rg re
       rw [re] at hv
       simp [execOp,go_sem,rc,rf,rg,hv]
      ·-- 6: slot 58:=Op.call { builtin append,args := #[t53,t57],argTypes := #[22,22] }
       intro ra w' hx hg hs
       have s53:ra.eval (.tmp 53) = .slice Av ls.length cv:=hs.1
       have s57:∃ h1 u es,(ra.eval (.tmp 57)) = .slice (some ⟨h1,0,none⟩) 1 1 ∧ wr.heap.size ≤ h1 ∧ w'.heap[h1]? = some (.cells #[u] 44 (0,0)) ∧ ERow w' wr.heap.size u es:=hs.2.1
       clear hs
       change Oper.wp _ _ ra w' _ _
       obtain ⟨h1,u,es,hv,hh1,hh2,hh3⟩:=s57
       obtain ⟨g,cap,w3,hrun,hrow,ht⟩:=(hg 6 rfl).app hh2 (ERow.base hh3 (by omega)) hll (by have:=hx.size;omega)
       refine reg.wp_value (v:=.slice (some ⟨g,0,none⟩) (ls.length + 1) cap) (w':=w3) (reg.runs_append rfl rfl s53 hv hrun) ⟨_,rfl,ht,g,cap,u,es,rfl,hrow,fun x hx' g' hg' e=>by have:=(hrow.lt x hx' g' hg').1;omega⟩
      ·-- 7: slot 59:=Op.fieldAddr 24 t7 0
       intro ra w' hx hg hs
       have s7:ra.eval (.tmp 7) = .pointer (some ⟨bi,0,none⟩):=hs.1
       clear hs
       change Oper.wp _ _ ra w' _ _
       refine reg.wp_value (v:=.pointer (some ⟨bi,0,none⟩)) (w':=w') ?_ ⟨_,rfl,heap.Turned.refl _ _,rfl⟩
       intro ρ rc rf rg re
       rw [re] at s7
       simp [execOp,go_sem,rc,rf,rg,s7] <;> first | omega | rfl | decide
      ·-- 8: slot None:=Op.store 22 t59 t58
       intro ra w' hx hg hs
       have s59:ra.eval (.tmp 59) = .pointer (some ⟨bi,0,none⟩):=hs.1
       have s58:∃ g cap u es,(ra.eval (.tmp 58)) = .slice (some ⟨g,0,none⟩) (ls.length + 1) cap ∧ LRow w' (bi + 1) (ra.eval (.tmp 58)) (ls ++ [es]) (vs ++ [u]) ∧ ∀ x ∈ (ra.eval (.tmp 58)) :: (vs ++ [u]),∀ g ∈ x.ownBlock.toList,g ≠ bi:=hs.2.1
       clear hs
       change Oper.wp _ _ ra w' _ _
       have hbk:=hg 8 rfl
       have hc0:=blk_cell hbk 0
       have hf0:=blk_free hbk 0
       obtain ⟨g,cap,u,es,hv,hrow,-⟩:=s58
       refine reg.wp_skip (w':=w'.setCell ⟨bi,0,none⟩ (ra.eval (.tmp 58))) ?_ ⟨_,rfl,(heap.Turned.refl _ _).setCell (by simp [dmH]) _,_,_,es,blk_set hbk 0 _,hrow.low ((heap.Turned.refl [bi] _).setCell (by simp) _) (by simp)⟩
       rw [hv]
       intro ρ rc rf rg re
       rw [re] at hv s59
       simp [execOp,go_sem,hv,s59,hc0,hf0]
     intro rV w6 hx6 hf
     have ve0:rV 0 = .pointer (some ⟨bi,0,none⟩):=hf 0 (by decide)
     have ve1:rV 1 = .slice Av ls.length cv:=hf 1 (by decide)
     have ve2:rV 2 = PP (w.heap.size + 1):=hf 2 (by decide)
     have ve3:rV 3 = pV tr:=hf 3 (by decide)
     have ve4:=hf 4 (by decide)
     have ve5:=hf 5 (by decide)
     have ve6:=hf 6 (by decide)
     have ve7:rV 7 = .pointer (some ⟨bi,0,none⟩):=hf 7 (by decide)
     have ve8:=hf 8 (by decide)
     clear hf
     simp only [List.zipIdx_cons,List.zipIdx_nil,List.foldl_cons,List.foldl_nil,Act.put,Nat.reduceAdd,List.setIfInBounds_toArray,List.set_cons_succ,List.set_cons_zero,ve0,ve1,ve2,ve3,ve7]
     clear ve0 ve1 ve2 ve3 ve7
     generalize rV 4 = v4 at *
     generalize rV 5 = v5 at *
     generalize rV 6 = v6 at *
     generalize rV 8 = v8 at *
     clear rV
     obtain ⟨x,vs',es,hu1,hu2⟩:=ve8
     obtain ⟨-,hp2,a',hu3⟩:=ve4
     have HD3:Hid (DX w (w.heap.size + 1) bi s a' p.2 p.1 (ls ++ [es]) x vs' w6):=⟨hu3,hu1,hx6.kept HD.out.rb (fun hm=>by
      rcases List.mem_cons.1 hm with e | hm
      ·omega
      ·rcases List.mem_append.1 hm with hm | hm
       ·rcases List.mem_cons.1 hm with e | e
        ·omega
        ·have:=(htl _ e).1;omega
       ·have:=(hvm _ hm).1;omega),hu2,HBX.out _ hx6,rfl,hbi⟩
     have HP2:=Lib.hid hp2
     clear hx6 hu1 hu2 hu3 ve5 ve6 hp2
     go_wp2_with fail
     go_roundg gk
     case rel=>exact ⟨a',i + 1,p.2,p.1,ls ++ [es],x,vs',by go_num,by omega,by simp;omega,HD3,.inl ⟨HP2.out,⟨p.1,rfl,rfl⟩⟩⟩
     case measure=>omega
    | ok r =>
     obtain ⟨⟨es,F2⟩,b2⟩:=r
     have hle:=layerG_le hen
     have HLX:Hid (fnD s (laysG s gk b2 (ls ++ [es]) F2) = R):=by
      have:=HLL.out
      rw [hen] at this
      exact this
     clear HLL
     refine reg.region_eachG (by kernel_rfl) ((fun rj w1 w2=>heap.Turned (dmH ((w.heap.size + 1) :: allB tr M) bi (.slice Av ls.length cv) rj) w1 w2)) (fun w'=>Turned (bi :: (((w.heap.size + 1) :: allB tr M) ++ (Value.slice Av ls.length cv).ownBlock.toList)) wr w') (fun ri v w'=>match ri with
       | 0=>v = .pointer (some ⟨bi,0,none⟩)
       | 1=>v = .slice Av ls.length cv
       | 2=>v = PP (w.heap.size + 1)
       | 3=>v = pV tr
       | 4=>(∃ u,v = .agg #[u] ∧ ERow w' wr.heap.size u es) ∧ ∃ bd G' M',w'.heap[w.heap.size + 1]? = some (RbO s b2 0 bd) ∧ TreeP w' (bi + 1) tr M' ∧ Rel G' M' ∧ Sk F2 G' ∧ (∀ g ∈ allB tr M',g ∈ allB tr M ∨ wr.heap.size ≤ g) ∧ M'.length ≤ M.length + 256
       | 5=>∃ h1 u,v = .slice (some ⟨h1,0,none⟩) 1 1 ∧ wr.heap.size ≤ h1 ∧ w'.heap[h1]? = some (.cells #[u] 44 (0,0)) ∧ ERow w' wr.heap.size u es
       | 6=>∃ g cap u,v = .slice (some ⟨g,0,none⟩) (ls.length + 1) cap ∧ LRow w' (bi + 1) v (ls ++ [es]) (vs ++ [u]) ∧ ∀ x ∈ v :: (vs ++ [u]),∀ g ∈ x.ownBlock.toList,g ≠ bi
       | 7=>v = .pointer (some ⟨bi,0,none⟩)
       | 8=>∃ x vs',w'.heap[bi]? = some (.cells #[x] 24 (0,0)) ∧ LRow w' (bi + 1) x (ls ++ [es]) vs'
       | _=>True) (fun rk w'=>match rk with
       | 4=>w'.heap[w.heap.size + 1]? = some (RbO s a 0 b) ∧ TreeP w' (bi + 1) tr M
       | 6=>LRow w' (bi + 1) (.slice Av ls.length cv) ls vs
       | 8=>w'.heap[bi]? = some (.cells #[.slice Av ls.length cv] 24 (0,0))
       | _=>True) ?_ ?_ ?_ ?_ ?_ (by kernel_rfl) ?_ ?_
     ·exact (Turned.refl _ _).drew
     ·
      intro k
      split <;> first | trivial | (first | exact ⟨HD.out.rd,HT.out.turned (Turned.refl [] _).drew (by simp)⟩ | exact HD.out.row.low (Turned.refl [] _).drew (by simp) | exact HD.out.ib)
     ·
      intro j w1 w2 h hx
      exact h.trans (hx.mono (fun x hm=>dmH_sub hm))
     ·
      intro j i v w1 w2 hij hj hr h hx
      rcases i with _|_|_|_|_|_|_|_|_|i
      ·exact h
      ·exact h
      ·exact h
      ·exact h
      ·(obtain ⟨⟨u,k1,k2⟩,bd,G',M',k3,k4,k5,k6,k7,k8⟩:=h;exact ⟨⟨u,k1,k2.turned hx (fun g hg'=>FN _ g (k2.lt g hg').1)⟩,bd,G',M',hx.kept k3 (FQ _ hij.symm),k4.turned hx (FM M' _ hij.symm k7),k5,k6,k7,k8⟩)
      ·(obtain ⟨h1,u,k1,k2,k3,k4⟩:=h;exact ⟨h1,u,k1,k2,hx.kept k3 (FN _ h1 k2),k4.turned hx (fun g hg'=>FN _ g (k4.lt g hg').1)⟩)
      ·(obtain ⟨g,cap,u,k1,k2,k3⟩:=h;exact ⟨g,cap,u,k1,k2.turned hx (fun x hx' g' hg' hm=>by rcases dmH_mem hm with ⟨m1,m2⟩ | ⟨m1,m2⟩ | ⟨m1,m2⟩ <;> first | (subst m1;exact Bool.noConfusion (hr.symm.trans (show reg.reaches _ _ 6 4 = true by kernel_rfl))) | exact hij m1.symm | exact k3 x hx' g' hg' m2),k3⟩)
      ·exact h
      ·exact (reg.last_no (by kernel_rfl) hij hj hr).elim
      ·trivial
     ·
      intro j k w1 w2 hkj h hx
      split at h <;> first | exact h | exact ⟨hx.kept h.1 (FQ _ hkj.symm),h.2.turned hx (FT _ hkj.symm)⟩ | exact LRow.turned h hx (FV _ hkj.symm) | exact hx.kept h (FB _ hkj.symm)
     ·
      refine ⟨?_,?_,?_,?_,?_,?_,?_,?_,?_,trivial⟩
      ·-- 0: slot 52:=Op.fieldAddr 24 t7 0
       intro ra w' hx hg hs
       have s7:ra.eval (.tmp 7) = .pointer (some ⟨bi,0,none⟩):=hs.1
       clear hs
       change Oper.wp _ _ ra w' _ _
       refine reg.wp_value (v:=.pointer (some ⟨bi,0,none⟩)) (w':=w') ?_ ⟨_,rfl,heap.Turned.refl _ _,rfl⟩
       intro ρ rc rf rg re
       rw [re] at s7
       simp [execOp,go_sem,rc,rf,rg,s7] <;> first | omega | rfl | decide
      ·-- 1: slot 53:=Op.load 22 t52
       intro ra w' hx hg hs
       have s52:ra.eval (.tmp 52) = .pointer (some ⟨bi,0,none⟩):=hs.1
       clear hs
       change Oper.wp _ _ ra w' _ _
       have hc0:=blk_cell (hg 8 rfl) 0
       refine reg.wp_value (v:=.slice Av ls.length cv) (w':=w') ?_ ⟨_,rfl,heap.Turned.refl _ _,rfl⟩
       intro ρ rc rf rg re
       rw [re] at s52
       simp [execOp,go_sem,rc,rf,rg,s52,hc0] <;> first | omega | rfl | decide
      ·-- 2: slot 54:=Op.move t5
       intro ra w' hx hg hs
       have s5:ra.eval (.tmp 5) = PP (w.heap.size + 1):=hs.1
       clear hs
       change Oper.wp _ _ ra w' _ _
       refine reg.wp_value (v:=PP (w.heap.size + 1)) (w':=w') ?_ ⟨_,rfl,heap.Turned.refl _ _,rfl⟩
       intro ρ rc rf rg re
       rw [re] at s5
       simp [execOp,go_sem,rc,rf,rg,s5] <;> first | omega | rfl | decide
      ·-- 3: slot 55:=Op.move t8
       intro ra w' hx hg hs
       have s8:ra.eval (.tmp 8) = pV tr:=hs.1
       clear hs
       change Oper.wp _ _ ra w' _ _
       refine reg.wp_value (v:=pV tr) (w':=w') ?_ ⟨_,rfl,heap.Turned.refl _ _,rfl⟩
       intro ρ rc rf rg re
       rw [re] at s8
       simp [execOp,go_sem,rc,rf,rg,s8] <;> first | omega | rfl | decide
      ·-- 4: slot 56:=Op.call { value (Operand.func 48),args := #[t54,t55],argTypes := #[91,52] }
       intro ra w' hx hg hs
       have s54:ra.eval (.tmp 54) = PP (w.heap.size + 1):=hs.1
       have s55:ra.eval (.tmp 55) = pV tr:=hs.2.1
       clear hs
       change Oper.wp _ _ ra w' _ _
       have HE:=rlayer_any (w.heap.size + 1) (bi + 1) tr F G M s a b w' (hg 4 rfl).1 (hg 4 rfl).2 HRL.out HS.out (by omega) hal hs
       rw [hen] at HE
       refine reg.wp_call (f:=48) (args := #[PP (w.heap.size + 1),pV tr]) (w':=w') ?_ (HE.mono ?_)
       ·intro ρ rc rf rg re
        rw [re] at s54 s55
        simp [execOp,go_sem,rc,rf,rg,s54,s55] <;> first | omega | rfl | decide
       rintro e w3 ⟨u,bd,G',M',rfl,hr,hq,hty,ht,hel⟩
       exact ⟨_,rfl,_,rfl,ht,⟨u,rfl,ERow.base hr hx.size⟩,bd,G',M',hq,hty.tr,hty.rel,hty.sk,fun g hg'=>(hty.new g hg').imp id (fun h9=>Nat.le_trans hx.size h9),hty.len⟩
      ·-- 5: slot 57:=Op.buildSlice 22 1 #[(0,t56)]
       intro ra w' hx hg hs
       have s56:(∃ u,(ra.eval (.tmp 56)) = .agg #[u] ∧ ERow w' wr.heap.size u es) ∧ ∃ bd G' M',w'.heap[w.heap.size + 1]? = some (RbO s b2 0 bd) ∧ TreeP w' (bi + 1) tr M' ∧ Rel G' M' ∧ Sk F2 G' ∧ (∀ g ∈ allB tr M',g ∈ allB tr M ∨ wr.heap.size ≤ g) ∧ M'.length ≤ M.length + 256:=hs.1
       clear hs
       change Oper.wp _ _ ra w' _ _
       obtain ⟨⟨u,hv,hr⟩,-⟩:=s56
       obtain ⟨Au,gu,cu,rfl,-⟩:=hr.slice
       refine reg.wp_value (v:=.slice (some ⟨w'.heap.size,0,none⟩) 1 1) (w':=w'.alloc (.cells #[.slice Au es.length cu] 44 (0,0))) ?_ ⟨_,rfl,(heap.Turned.refl _ _).alloc _,_,_,rfl,hx.size,blk_new _ _,hr.below ((Below.refl _ _).alloc (Nat.le_refl _) _)⟩
       intro ρ rc rf rg re
       rw [re] at hv
       simp [execOp,go_sem,rc,rf,rg,hv]
      ·-- 6: slot 58:=Op.call { builtin append,args := #[t53,t57],argTypes := #[22,22] }
       intro ra w' hx hg hs
       have s53:ra.eval (.tmp 53) = .slice Av ls.length cv:=hs.1
       have s57:∃ h1 u,(ra.eval (.tmp 57)) = .slice (some ⟨h1,0,none⟩) 1 1 ∧ wr.heap.size ≤ h1 ∧ w'.heap[h1]? = some (.cells #[u] 44 (0,0)) ∧ ERow w' wr.heap.size u es:=hs.2.1
       clear hs
       change Oper.wp _ _ ra w' _ _
       obtain ⟨h1,u,hv,hh1,hh2,hh3⟩:=s57
       obtain ⟨g,cap,w3,hrun,hrow,ht⟩:=(hg 6 rfl).app hh2 (ERow.base hh3 (by omega)) hll (by have:=hx.size;omega)
       refine reg.wp_value (v:=.slice (some ⟨g,0,none⟩) (ls.length + 1) cap) (w':=w3) (reg.runs_append rfl rfl s53 hv hrun) ⟨_,rfl,ht,g,cap,u,rfl,hrow,fun x hx' g' hg' e=>by have:=(hrow.lt x hx' g' hg').1;omega⟩
      ·-- 7: slot 59:=Op.fieldAddr 24 t7 0
       intro ra w' hx hg hs
       have s7:ra.eval (.tmp 7) = .pointer (some ⟨bi,0,none⟩):=hs.1
       clear hs
       change Oper.wp _ _ ra w' _ _
       refine reg.wp_value (v:=.pointer (some ⟨bi,0,none⟩)) (w':=w') ?_ ⟨_,rfl,heap.Turned.refl _ _,rfl⟩
       intro ρ rc rf rg re
       rw [re] at s7
       simp [execOp,go_sem,rc,rf,rg,s7] <;> first | omega | rfl | decide
      ·-- 8: slot None:=Op.store 22 t59 t58
       intro ra w' hx hg hs
       have s59:ra.eval (.tmp 59) = .pointer (some ⟨bi,0,none⟩):=hs.1
       have s58:∃ g cap u,(ra.eval (.tmp 58)) = .slice (some ⟨g,0,none⟩) (ls.length + 1) cap ∧ LRow w' (bi + 1) (ra.eval (.tmp 58)) (ls ++ [es]) (vs ++ [u]) ∧ ∀ x ∈ (ra.eval (.tmp 58)) :: (vs ++ [u]),∀ g ∈ x.ownBlock.toList,g ≠ bi:=hs.2.1
       clear hs
       change Oper.wp _ _ ra w' _ _
       have hbk:=hg 8 rfl
       have hc0:=blk_cell hbk 0
       have hf0:=blk_free hbk 0
       obtain ⟨g,cap,u,hv,hrow,-⟩:=s58
       refine reg.wp_skip (w':=w'.setCell ⟨bi,0,none⟩ (ra.eval (.tmp 58))) ?_ ⟨_,rfl,(heap.Turned.refl _ _).setCell (by simp [dmH]) _,_,_,blk_set hbk 0 _,hrow.low ((heap.Turned.refl [bi] _).setCell (by simp) _) (by simp)⟩
       rw [hv]
       intro ρ rc rf rg re
       rw [re] at hv s59
       simp [execOp,go_sem,hv,s59,hc0,hf0]
     intro rV w6 hx6 hf
     have ve0:rV 0 = .pointer (some ⟨bi,0,none⟩):=hf 0 (by decide)
     have ve1:rV 1 = .slice Av ls.length cv:=hf 1 (by decide)
     have ve2:rV 2 = PP (w.heap.size + 1):=hf 2 (by decide)
     have ve3:rV 3 = pV tr:=hf 3 (by decide)
     have ve4:=hf 4 (by decide)
     have ve5:=hf 5 (by decide)
     have ve6:=hf 6 (by decide)
     have ve7:rV 7 = .pointer (some ⟨bi,0,none⟩):=hf 7 (by decide)
     have ve8:=hf 8 (by decide)
     clear hf
     simp only [List.zipIdx_cons,List.zipIdx_nil,List.foldl_cons,List.foldl_nil,Act.put,Nat.reduceAdd,List.setIfInBounds_toArray,List.set_cons_succ,List.set_cons_zero,ve0,ve1,ve2,ve3,ve7]
     clear ve0 ve1 ve2 ve3 ve7
     generalize rV 4 = v4 at *
     generalize rV 5 = v5 at *
     generalize rV 6 = v6 at *
     generalize rV 8 = v8 at *
     clear rV
     obtain ⟨x,vs',hu1,hu2⟩:=ve8
     obtain ⟨-,bd,G',M',hu3,hu4,hu5,hu6,-,hu8⟩:=ve4
     have HD3:Hid (DX w (w.heap.size + 1) bi s b2 0 bd (ls ++ [es]) x vs' w6):=⟨hu3,hu1,hx6.kept HD.out.rb (fun hm=>by
      rcases List.mem_cons.1 hm with e | hm
      ·omega
      ·rcases List.mem_append.1 hm with hm | hm
       ·rcases List.mem_cons.1 hm with e | e
        ·omega
        ·have:=(htl _ e).1;omega
       ·have:=(hvm _ hm).1;omega),hu2,HBX.out _ hx6,rfl,hbi⟩
     have HT3:=Lib.hid hu4
     have HR3:=Lib.hid hu5
     have HS3:=Lib.hid hu6
     clear hx6 hu1 hu2 hu3 hu4 hu5 hu6 ve5 ve6
     go_wp2_with fail
     go_roundg gk
     case rel=>exact ⟨b2,i + 1,0,bd,ls ++ [es],x,vs',by go_num,by omega,by simp;omega,HD3,.inr ⟨rfl,by omega,hle,F2,G',M',HT3,HR3,HS3,by omega,HLX⟩⟩
     case measure=>omega
   ·subst hil
    have hg0:gk = 0:=by omega
    subst hg0
    have HX2:=HX.out
    rw [laysG] at HX2
    have hX3:(if a < s.length then .error (a,1310) else .ok ls:Except Flt (List (List Ent))) = R:=HX2
    have dl1:decide ((ls.length:Int) < (m:Int)) = false:=decide_eq_false (by omega)
    have dl2:decide (ls.length < m) = false:=decide_eq_false hlt
    clear HX HX2 HT HRL HS
    by_cases hal2:a < s.length
    ·rw [if_pos hal2] at hX3
     subst hX3
     go_wp2_with fail
     refine (rend_short (w.heap.size + 1) s a b wr HD.out.rd hal2).mono ?_;rintro e w6 ⟨rfl,hq,ht⟩
     have HQ6:=Lib.hid hq
     have HR6:=Lib.hid (ht.kept HD.out.rb (by simp))
     have HB6:Hid (Below w.heap.size w w6):=HD.out.bel.trans (ht.below HD.out.bel.size (fun k hk=>by simp at hk;omega))
     clear hq ht HD c2 l2 i0 il dl1 dl2
     have c2:=blk_cell HQ6.out 2
     have c3:=blk_cell HQ6.out 3
     have l2:=blk_lt HQ6.out
     have r0:=blk_cell HR6.out 0
     have rf:=blk_free HR6.out 0
     have rl:=blk_lt HR6.out
     simp only [List.getElem?_toArray,List.getElem?_cons_zero,List.getElem?_cons_succ] at c2 c3 r0
     have k2:=blk_cell (w:=(w6.setCell ⟨w.heap.size,0,none⟩ (.slice none 0 0)).drew) (blk_set HR6.out 0 (.slice none 0 0)) 0
     have kl:w.heap.size < (w6.setCell ⟨w.heap.size,0,none⟩ (.slice none 0 0)).drew.heap.size:=by show _ < (w6.setCell _ _).heap.size;simp [World.setCell];exact rl
     have HB7:Hid (Below w.heap.size w (w6.setCell ⟨w.heap.size,0,none⟩ (.slice none 0 0)).drew):=(HB6.out.setCell (Nat.le_refl _) _).drew
     simp only [List.setIfInBounds_toArray,List.set_cons_zero,List.getElem?_toArray,List.getElem?_cons_zero] at k2
     go_upto_region 17 with fail
     go_region
     generalize (w6.setCell ⟨w.heap.size,0,none⟩ (.slice none 0 0)).drew = w7 at *
     clear c2 c3 l2 r0 rf rl
     go_wp2_with fail
     refine bodyPost_ret (v:=.tuple #[.agg #[.slice none 0 0],.int .i64 a,.int .i64 1310]) (by simp [results,Tryz.results14,go_sem,k2]) rfl ?_
     exact ⟨rfl,HB7.out⟩
    ·rw [if_neg hal2] at hX3
     subst hX3
     go_wp2_with fail
     refine (rend_full (w.heap.size + 1) s a b wr HD.out.rd hal2).mono ?_;rintro e w6 ⟨rfl,hq,ht⟩
     have HD6:=Lib.hid (HD.out.turn hq ht)
     clear hq ht HD c2 l2 i0 il dl1 dl2
     have c2:=blk_cell HD6.out.rd 2
     have l2:=blk_lt HD6.out.rd
     have i0:=blk_cell HD6.out.ib 0
     have il:=blk_lt HD6.out.ib
     have r0:=blk_cell HD6.out.rb 0
     have rf:=blk_free HD6.out.rb 0
     have rl:=blk_lt HD6.out.rb
     simp only [List.getElem?_toArray,List.getElem?_cons_zero,List.getElem?_cons_succ] at c2 i0 r0
     have k2:=blk_cell (blk_set HD6.out.rb 0 (.slice Av ls.length cv)) 0
     simp only [List.setIfInBounds_toArray,List.set_cons_zero,List.getElem?_toArray,List.getElem?_cons_zero] at k2
     go_wp2_with fail
     refine bodyPost_ret (v:=.tuple #[.agg #[.slice Av ls.length cv],.int .i64 0,.int .i64 0]) (by simp [results,Tryz.results14,go_sem,k2]) rfl ?_
     have hbi:=HD6.out.bi1
     exact ⟨_,rfl,⟨vs,(HD6.out.row.low ((Turned.refl [w.heap.size] _).setCell (by simp) _) (by simp;omega)).base (by omega)⟩,HD6.out.bel.setCell (Nat.le_refl _) _⟩
end Go.Proofs.YtifhnpkapgaboaaGreat.arch
