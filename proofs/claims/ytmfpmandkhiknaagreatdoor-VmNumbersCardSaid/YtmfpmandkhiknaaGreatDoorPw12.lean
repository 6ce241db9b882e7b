/-
  Proved: what the machine's operators return, each. Conditions: as each theorem says.
  Proved: which call a function asks for, what its arguments are. Conditions: as each theorem says.
  Proved: the call that is asked for. Conditions: as each theorem says.
  Proved: rows of values of the call's own: one more, a copy. Conditions: as each theorem says.
  Proved: what the functions that ask for no call return. Conditions: as each theorem says.
-/
import Derived.Test.YtmfpmandkhiknaaGreatDoorPw11
set_option linter.unusedVariables false
set_option linter.unusedSimpArgs false
namespace Go.Proofs.YtmfpmandkhiknaaGreatDoor.vmm
open Go Go.RowKit Ieee
open flt heap
open lex (run_store_float)
set_option maxRecDepth 100000
attribute [local go_sem] run_store_float
set_option maxHeartbeats 4000000 in
theorem bin_less (a b:Val) (ra rb:Nat) (w:World) (ha:NumOk a ra) (hb:NumOk b rb) :
  Calls Tryz.prog 92 #[.int .i64 14,vV a.isT a.text ra,vV b.isT b.text rb] w (ValP (binaryM 14 a b) w):=by
 obtain ⟨ia,ta,na⟩:=a
 obtain ⟨ib,tb,nb⟩:=b
 have HE:Hid (∀ W,Calls Tryz.prog 122 #[fv ra,fv rb] W fun e w'=>e = .returned (.bool (double.order na nb == some .lt)) ∧ W = w'):=fun W=>by
  have h:=Less_any ra rb W
  have e:(double.order ra rb == some .lt) = (double.order na nb == some .lt):=by
   have h1:cf ra = na:=ha.1
   have h2:cf rb = nb:=hb.1
   rw [← h1,← h2,order_cf]
  rw [e] at h
  exact h
 clear ha hb
 simp only
 cases ia <;> cases ib
 ·have e:binaryM 14 ⟨false,ta,na⟩ ⟨false,tb,nb⟩ = .ok (flagV (double.order na nb == some .lt)):=rfl
  rw [e]
  clear e
  generalize (double.order na nb == some .lt) = q at *
  have HNQ:=Lib.hid (numF q)
  have HFQ:=Lib.hid (fun W=>flag_any q W)
  generalize (if q = true then 4607182418800017408 else 0) = rq at *
  go_enter Tryz.func92,Tryz.ntmps92
  go_upto_region 1 with fail
  have HJ:=Lib.hid (BJ.start w ⟨false,ta,na⟩ ⟨false,tb,nb⟩ ra rb)
  change Code.wp _ _ _ _ (((w.alloc (vO false ta ra)).alloc (vO false tb rb)).alloc (vO false [] 0))
  generalize ((w.alloc (vO false ta ra)).alloc (vO false tb rb)).alloc (vO false [] 0) = wr at *
  have x0:=blk_cell (HJ.out.x) 0
  have x1:=blk_cell (HJ.out.x) 1
  have x2:=blk_cell (HJ.out.x) 2
  have xf0:=blk_free (HJ.out.x) 0
  have xf1:=blk_free (HJ.out.x) 1
  have xf2:=blk_free (HJ.out.x) 2
  have xl:=blk_lt (HJ.out.x)
  simp only [List.getElem?_toArray,List.getElem?_cons_zero,List.getElem?_cons_succ] at x0 x1 x2
  have y0:=blk_cell (HJ.out.y) 0
  have y1:=blk_cell (HJ.out.y) 1
  have y2:=blk_cell (HJ.out.y) 2
  have yf0:=blk_free (HJ.out.y) 0
  have yf1:=blk_free (HJ.out.y) 1
  have yf2:=blk_free (HJ.out.y) 2
  have yl:=blk_lt (HJ.out.y)
  simp only [List.getElem?_toArray,List.getElem?_cons_zero,List.getElem?_cons_succ] at y0 y1 y2
  go_wp2_with (first | (go_at_call 60;refine (fail_no _ _).mono ?_;rintro e w' ⟨rfl,rfl⟩) | (go_at_call 122;refine (HE.out _).mono ?_;rintro e w' ⟨rfl,rfl⟩) | (go_at_call 89;refine (HFQ.out _).mono ?_;rintro e w6 ⟨rfl,hb6⟩;have HJ6:=Lib.hid (HJ.out.below hb6);clear hb6;obtain ⟨zz0,zz1,zz2,zzf0,zzf1,zzf2,zzl⟩:=c3_of HJ6.out.z))
  have h3:((((w6).setCell ⟨w.heap.size + 1 + 1,0,none⟩ (.bool false)).setCell ⟨w.heap.size + 1 + 1,1,none⟩ (.string ⟨#[]⟩)).setCell ⟨w.heap.size + 1 + 1,2,none⟩ (.float .f64 rq)).heap[w.heap.size + 1 + 1]? = some (.cells #[.bool false,.string ⟨#[]⟩,.float .f64 rq] 47 (0,0)):=blk_set (blk_set (blk_set HJ6.out.z 0 _) 1 _) 2 _
  have hb3:Below w.heap.size w ((((w6).setCell ⟨w.heap.size + 1 + 1,0,none⟩ (.bool false)).setCell ⟨w.heap.size + 1 + 1,1,none⟩ (.string ⟨#[]⟩)).setCell ⟨w.heap.size + 1 + 1,2,none⟩ (.float .f64 rq)):=((HJ6.out.bel.setCell (by simp <;> omega) _).setCell (by simp <;> omega) _).setCell (by simp <;> omega) _
  generalize ((((w6).setCell _ _).setCell _ _).setCell _ _) = w3 at h3 hb3 ⊢
  have z0:=blk_cell (h3) 0
  have z1:=blk_cell (h3) 1
  have z2:=blk_cell (h3) 2
  have zf0:=blk_free (h3) 0
  have zf1:=blk_free (h3) 1
  have zf2:=blk_free (h3) 2
  have zl:=blk_lt (h3)
  simp only [List.getElem?_toArray,List.getElem?_cons_zero,List.getElem?_cons_succ] at z0 z1 z2
  refine bodyPost_ret (v:=.agg #[.bool false,.string ⟨#[]⟩,.float .f64 rq]) (by simp [results,Tryz.results92,go_sem,z0,z1,z2]) rfl ?_
  exact ValP.ok (c:=flagV q) hb3 HNQ.out
 ·have e:binaryM 14 ⟨false,ta,na⟩ ⟨true,tb,nb⟩ = .error (2201,[]):=rfl
  rw [e]
  clear e
  go_enter Tryz.func92,Tryz.ntmps92
  go_upto_region 1 with fail
  have HJ:=Lib.hid (BJ.start w ⟨false,ta,na⟩ ⟨true,tb,nb⟩ ra rb)
  change Code.wp _ _ _ _ (((w.alloc (vO false ta ra)).alloc (vO true tb rb)).alloc (vO false [] 0))
  generalize ((w.alloc (vO false ta ra)).alloc (vO true tb rb)).alloc (vO false [] 0) = wr at *
  have x0:=blk_cell (HJ.out.x) 0
  have x1:=blk_cell (HJ.out.x) 1
  have x2:=blk_cell (HJ.out.x) 2
  have xf0:=blk_free (HJ.out.x) 0
  have xf1:=blk_free (HJ.out.x) 1
  have xf2:=blk_free (HJ.out.x) 2
  have xl:=blk_lt (HJ.out.x)
  simp only [List.getElem?_toArray,List.getElem?_cons_zero,List.getElem?_cons_succ] at x0 x1 x2
  have y0:=blk_cell (HJ.out.y) 0
  have y1:=blk_cell (HJ.out.y) 1
  have y2:=blk_cell (HJ.out.y) 2
  have yf0:=blk_free (HJ.out.y) 0
  have yf1:=blk_free (HJ.out.y) 1
  have yf2:=blk_free (HJ.out.y) 2
  have yl:=blk_lt (HJ.out.y)
  simp only [List.getElem?_toArray,List.getElem?_cons_zero,List.getElem?_cons_succ] at y0 y1 y2
  go_wp2_with (go_at_call 60;refine (fail_yes _ _).mono ?_;rintro e w' ⟨rfl,rfl⟩;exact ⟨rfl,ValP.err HJ.out.bel⟩)
 ·have e:binaryM 14 ⟨true,ta,na⟩ ⟨false,tb,nb⟩ = .error (2201,[]):=rfl
  rw [e]
  clear e
  go_enter Tryz.func92,Tryz.ntmps92
  go_upto_region 1 with fail
  have HJ:=Lib.hid (BJ.start w ⟨true,ta,na⟩ ⟨false,tb,nb⟩ ra rb)
  change Code.wp _ _ _ _ (((w.alloc (vO true ta ra)).alloc (vO false tb rb)).alloc (vO false [] 0))
  generalize ((w.alloc (vO true ta ra)).alloc (vO false tb rb)).alloc (vO false [] 0) = wr at *
  have x0:=blk_cell (HJ.out.x) 0
  have x1:=blk_cell (HJ.out.x) 1
  have x2:=blk_cell (HJ.out.x) 2
  have xf0:=blk_free (HJ.out.x) 0
  have xf1:=blk_free (HJ.out.x) 1
  have xf2:=blk_free (HJ.out.x) 2
  have xl:=blk_lt (HJ.out.x)
  simp only [List.getElem?_toArray,List.getElem?_cons_zero,List.getElem?_cons_succ] at x0 x1 x2
  have y0:=blk_cell (HJ.out.y) 0
  have y1:=blk_cell (HJ.out.y) 1
  have y2:=blk_cell (HJ.out.y) 2
  have yf0:=blk_free (HJ.out.y) 0
  have yf1:=blk_free (HJ.out.y) 1
  have yf2:=blk_free (HJ.out.y) 2
  have yl:=blk_lt (HJ.out.y)
  simp only [List.getElem?_toArray,List.getElem?_cons_zero,List.getElem?_cons_succ] at y0 y1 y2
  go_wp2_with (go_at_call 60;refine (fail_yes _ _).mono ?_;rintro e w' ⟨rfl,rfl⟩;exact ⟨rfl,ValP.err HJ.out.bel⟩)
 ·have e:binaryM 14 ⟨true,ta,na⟩ ⟨true,tb,nb⟩ = .ok (flagV (Op.bytesLess ta tb)):=by
   show Except.ok (flagV ((true && Op.bytesLess ta tb) || (false && (double.order na nb == some .lt)))) = _
   rw [Bool.true_and,Bool.false_and,Bool.or_false]
  rw [e]
  clear e
  cases hl:Op.bytesLess ta tb with
  | true =>
   obtain ⟨q,hq⟩:∃ q,q = true:=⟨_,rfl⟩
   rw [← hq]
   have HNQ:=Lib.hid (numF q)
   have HFQ:=Lib.hid (fun W=>flag_any q W)
   generalize (if q = true then 4607182418800017408 else 0) = rq at *
   rw [hq] at HFQ
   go_enter Tryz.func92,Tryz.ntmps92
   go_upto_region 1 with fail
   have HJ:=Lib.hid (BJ.start w ⟨true,ta,na⟩ ⟨true,tb,nb⟩ ra rb)
   change Code.wp _ _ _ _ (((w.alloc (vO true ta ra)).alloc (vO true tb rb)).alloc (vO false [] 0))
   generalize ((w.alloc (vO true ta ra)).alloc (vO true tb rb)).alloc (vO false [] 0) = wr at *
   have x0:=blk_cell (HJ.out.x) 0
   have x1:=blk_cell (HJ.out.x) 1
   have x2:=blk_cell (HJ.out.x) 2
   have xf0:=blk_free (HJ.out.x) 0
   have xf1:=blk_free (HJ.out.x) 1
   have xf2:=blk_free (HJ.out.x) 2
   have xl:=blk_lt (HJ.out.x)
   simp only [List.getElem?_toArray,List.getElem?_cons_zero,List.getElem?_cons_succ] at x0 x1 x2
   have y0:=blk_cell (HJ.out.y) 0
   have y1:=blk_cell (HJ.out.y) 1
   have y2:=blk_cell (HJ.out.y) 2
   have yf0:=blk_free (HJ.out.y) 0
   have yf1:=blk_free (HJ.out.y) 1
   have yf2:=blk_free (HJ.out.y) 2
   have yl:=blk_lt (HJ.out.y)
   simp only [List.getElem?_toArray,List.getElem?_cons_zero,List.getElem?_cons_succ] at y0 y1 y2
   go_wp2_with (first | (go_at_call 60;refine (fail_no _ _).mono ?_;rintro e w' ⟨rfl,rfl⟩) | (go_at_call 89;refine (HFQ.out _).mono ?_;rintro e w6 ⟨rfl,hb6⟩;have HJ6:=Lib.hid (HJ.out.below hb6);clear hb6;obtain ⟨zz0,zz1,zz2,zzf0,zzf1,zzf2,zzl⟩:=c3_of HJ6.out.z))
   have h3:((((w6).setCell ⟨w.heap.size + 1 + 1,0,none⟩ (.bool false)).setCell ⟨w.heap.size + 1 + 1,1,none⟩ (.string ⟨#[]⟩)).setCell ⟨w.heap.size + 1 + 1,2,none⟩ (.float .f64 rq)).heap[w.heap.size + 1 + 1]? = some (.cells #[.bool false,.string ⟨#[]⟩,.float .f64 rq] 47 (0,0)):=blk_set (blk_set (blk_set HJ6.out.z 0 _) 1 _) 2 _
   have hb3:Below w.heap.size w ((((w6).setCell ⟨w.heap.size + 1 + 1,0,none⟩ (.bool false)).setCell ⟨w.heap.size + 1 + 1,1,none⟩ (.string ⟨#[]⟩)).setCell ⟨w.heap.size + 1 + 1,2,none⟩ (.float .f64 rq)):=((HJ6.out.bel.setCell (by simp <;> omega) _).setCell (by simp <;> omega) _).setCell (by simp <;> omega) _
   generalize ((((w6).setCell _ _).setCell _ _).setCell _ _) = w3 at h3 hb3 ⊢
   have z0:=blk_cell (h3) 0
   have z1:=blk_cell (h3) 1
   have z2:=blk_cell (h3) 2
   have zf0:=blk_free (h3) 0
   have zf1:=blk_free (h3) 1
   have zf2:=blk_free (h3) 2
   have zl:=blk_lt (h3)
   simp only [List.getElem?_toArray,List.getElem?_cons_zero,List.getElem?_cons_succ] at z0 z1 z2
   refine bodyPost_ret (v:=.agg #[.bool false,.string ⟨#[]⟩,.float .f64 rq]) (by simp [results,Tryz.results92,go_sem,z0,z1,z2]) rfl ?_
   exact ValP.ok (c:=flagV q) hb3 HNQ.out
  | false =>
   obtain ⟨q,hq⟩:∃ q,q = false:=⟨_,rfl⟩
   rw [← hq]
   have HNQ:=Lib.hid (numF q)
   have HFQ:=Lib.hid (fun W=>flag_any q W)
   generalize (if q = true then 4607182418800017408 else 0) = rq at *
   rw [hq] at HFQ
   go_enter Tryz.func92,Tryz.ntmps92
   go_upto_region 1 with fail
   have HJ:=Lib.hid (BJ.start w ⟨true,ta,na⟩ ⟨true,tb,nb⟩ ra rb)
   change Code.wp _ _ _ _ (((w.alloc (vO true ta ra)).alloc (vO true tb rb)).alloc (vO false [] 0))
   generalize ((w.alloc (vO true ta ra)).alloc (vO true tb rb)).alloc (vO false [] 0) = wr at *
   have x0:=blk_cell (HJ.out.x) 0
   have x1:=blk_cell (HJ.out.x) 1
   have x2:=blk_cell (HJ.out.x) 2
   have xf0:=blk_free (HJ.out.x) 0
   have xf1:=blk_free (HJ.out.x) 1
   have xf2:=blk_free (HJ.out.x) 2
   have xl:=blk_lt (HJ.out.x)
   simp only [List.getElem?_toArray,List.getElem?_cons_zero,List.getElem?_cons_succ] at x0 x1 x2
   have y0:=blk_cell (HJ.out.y) 0
   have y1:=blk_cell (HJ.out.y) 1
   have y2:=blk_cell (HJ.out.y) 2
   have yf0:=blk_free (HJ.out.y) 0
   have yf1:=blk_free (HJ.out.y) 1
   have yf2:=blk_free (HJ.out.y) 2
   have yl:=blk_lt (HJ.out.y)
   simp only [List.getElem?_toArray,List.getElem?_cons_zero,List.getElem?_cons_succ] at y0 y1 y2
   go_wp2_with (first | (go_at_call 60;refine (fail_no _ _).mono ?_;rintro e w' ⟨rfl,rfl⟩) | (go_at_call 89;refine (HFQ.out _).mono ?_;rintro e w6 ⟨rfl,hb6⟩;have HJ6:=Lib.hid (HJ.out.below hb6);clear hb6;obtain ⟨zz0,zz1,zz2,zzf0,zzf1,zzf2,zzl⟩:=c3_of HJ6.out.z))
   have h3:((((w6).setCell ⟨w.heap.size + 1 + 1,0,none⟩ (.bool false)).setCell ⟨w.heap.size + 1 + 1,1,none⟩ (.string ⟨#[]⟩)).setCell ⟨w.heap.size + 1 + 1,2,none⟩ (.float .f64 rq)).heap[w.heap.size + 1 + 1]? = some (.cells #[.bool false,.string ⟨#[]⟩,.float .f64 rq] 47 (0,0)):=blk_set (blk_set (blk_set HJ6.out.z 0 _) 1 _) 2 _
   have hb3:Below w.heap.size w ((((w6).setCell ⟨w.heap.size + 1 + 1,0,none⟩ (.bool false)).setCell ⟨w.heap.size + 1 + 1,1,none⟩ (.string ⟨#[]⟩)).setCell ⟨w.heap.size + 1 + 1,2,none⟩ (.float .f64 rq)):=((HJ6.out.bel.setCell (by simp <;> omega) _).setCell (by simp <;> omega) _).setCell (by simp <;> omega) _
   generalize ((((w6).setCell _ _).setCell _ _).setCell _ _) = w3 at h3 hb3 ⊢
   have z0:=blk_cell (h3) 0
   have z1:=blk_cell (h3) 1
   have z2:=blk_cell (h3) 2
   have zf0:=blk_free (h3) 0
   have zf1:=blk_free (h3) 1
   have zf2:=blk_free (h3) 2
   have zl:=blk_lt (h3)
   simp only [List.getElem?_toArray,List.getElem?_cons_zero,List.getElem?_cons_succ] at z0 z1 z2
   refine bodyPost_ret (v:=.agg #[.bool false,.string ⟨#[]⟩,.float .f64 rq]) (by simp [results,Tryz.results92,go_sem,z0,z1,z2]) rfl ?_
   exact ValP.ok (c:=flagV q) hb3 HNQ.out
theorem md_lt {a b:Nat} (ha:a < 18446744073709551616) (hb:b < 18446744073709551616):md a b < 18446744073709551616:=by
 unfold md
 cases h:(eqB b 0 || infB a || nanB a || nanB b)
 ·simp only [Bool.or_eq_false_iff] at h
  obtain ⟨⟨⟨h1,h2⟩,h3⟩,h4⟩:=h
  rw [if_neg Bool.false_ne_true]
  have hfa:=inf_cases a ha h2 h3
  cases h5:infB b
  ·rw [if_neg Bool.false_ne_true]
   have hfb:=inf_cases b hb h5 h4
   have h6:=(modR_ok (rung a) (rung b) (by have:=hfa.2;unfold INF;omega) (by have:=hfb.2;unfold INF;omega) (eqz b hfb h1)).1
   unfold INF at h6
   unfold wd
   split <;> omega
  ·rw [if_pos rfl]
   exact ha
 ·rw [if_pos rfl]
  decide
theorem binary_any (op:Int) (a b:Val) (ra rb:Nat) (w:World) (ha:NumOk a ra) (hb:NumOk b rb) (hla:(shown a).length ≤ 100000) (hlb:(shown b).length ≤ 100000) :
  Calls Tryz.prog 92 #[.int .i64 op,vV a.isT a.text ra,vV b.isT b.text rb] w (ValP (binaryM op a b) w):=by
 by_cases h12:op = 12
 ·subst h12
  exact bin_join a b ra rb w ha hb hla hlb
 by_cases h13:op = 13
 ·subst h13
  exact bin_eq a b ra rb w ha hb
 by_cases h14:op = 14
 ·subst h14
  exact bin_less a b ra rb w ha hb
 have e:binaryM op a b = if a.isT || b.isT then .error (2201,[])
   else .ok (numV (if op = 7 then opC .add a.num b.num else if op = 8 then opC .sub a.num b.num else if op = 9 then opC .mul a.num b.num else if op = 10 then opC .quo a.num b.num else modC a.num b.num)):=by
  unfold binaryM
  rw [if_neg h12,if_neg h13,if_neg h14]
 rw [e]
 clear e
 obtain ⟨ia,ta,na⟩:=a
 obtain ⟨ib,tb,nb⟩:=b
 obtain ⟨hca,hra⟩:=ha
 obtain ⟨hcb,hrb⟩:=hb
 simp only at hca hcb hra hrb ⊢
 by_cases hab:(ia || ib) = true
 ·rw [if_pos hab]
  exact bin_bad op ia ib ta tb na nb ra rb w ⟨h12,h13,h14⟩ hab
 rw [if_neg hab]
 have hia:ia = false:=by cases ia <;> simp_all
 have hib:ib = false:=by cases ib <;> simp_all
 subst hia hib
 rw [← hca,← hcb]
 have num:∀ (o:BinOp) (r:Nat),FR (fop o ra rb) r → NumOk (numV (opC o (cf ra) (cf rb))) r:=fun o r h=>⟨opC_of h,h.2.2⟩
 by_cases h7:op = 7
 ·subst h7
  rw [if_pos rfl]
  exact bin_add ta tb na nb ra rb w _ (fun W=>(Add_any ra rb W).mono fun e w' ⟨r,he,hr,hbl⟩=>⟨r,he,num _ _ hr,hbl⟩) 7 rfl
 rw [if_neg h7]
 by_cases h8:op = 8
 ·subst h8
  rw [if_pos rfl]
  exact bin_sub ta tb na nb ra rb w _ (fun W=>(Sub_any ra rb W).mono fun e w' ⟨r,he,hr,hbl⟩=>⟨r,he,num _ _ hr,hbl⟩) 8 rfl
 rw [if_neg h8]
 by_cases h9:op = 9
 ·subst h9
  rw [if_pos rfl]
  exact bin_mul ta tb na nb ra rb w _ (fun W=>(Mul_any ra rb W).mono fun e w' ⟨r,he,hr,hbl⟩=>⟨r,he,num _ _ hr,hbl⟩) 9 rfl
 rw [if_neg h9]
 by_cases h10:op = 10
 ·subst h10
  rw [if_pos rfl]
  exact bin_div ta tb na nb ra rb w _ (fun W=>(Div_any ra rb W).mono fun e w' ⟨r,he,hr,hbl⟩=>⟨r,he,num _ _ hr,hbl⟩) 10 rfl
 rw [if_neg h10]
 exact bin_mod ta tb na nb ra rb w _ (fun W=>(fMod_any ra rb W hra hrb).mono fun e w' ⟨he,hw⟩=>⟨_,he,⟨by rw [mod_cf];rfl,md_lt hra hrb⟩,hw ▸ Below.refl _ _⟩) op ⟨⟨h12,h13,h14⟩,h7,h8,h9,h10⟩
end Go.Proofs.YtmfpmandkhiknaaGreatDoor.vmm
namespace Go.Proofs.YtmfpmandkhiknaaGreatDoor.vmm
open Go Go.RowKit Ieee
open flt heap
set_option maxRecDepth 100000
theorem form_any (g:List UInt8) (w:World):Calls Tryz.prog 156 #[.string ⟨g.toArray⟩] w fun e w'=>e = .returned (.tuple #[.int .i64 (formM g).1,.string ⟨(formM g).2.toArray⟩]) ∧ w = w':=by
 by_cases h0:g = [114,101,97,100]
 ·subst h0
  have e:formM [114,101,97,100] = (2,[80,111,110]):=by decide
  rw [e]
  go_enter Tryz.func156,Tryz.ntmps156
  go_wp2_with fail
  go_ret2
  exact ⟨rfl,rfl⟩
 by_cases h1:g = [108,105,115,116]
 ·subst h1
  have e:formM [108,105,115,116] = (3,[80]):=by decide
  rw [e]
  go_enter Tryz.func156,Tryz.ntmps156
  go_wp2_with fail
  go_ret2
  exact ⟨rfl,rfl⟩
 by_cases h2:g = [115,116,97,116]
 ·subst h2
  have e:formM [115,116,97,116] = (1,[80]):=by decide
  rw [e]
  go_enter Tryz.func156,Tryz.ntmps156
  go_wp2_with fail
  go_ret2
  exact ⟨rfl,rfl⟩
 by_cases h3:g = [114,101,97,100,108,105,110,107]
 ·subst h3
  have e:formM [114,101,97,100,108,105,110,107] = (4,[80]):=by decide
  rw [e]
  go_enter Tryz.func156,Tryz.ntmps156
  go_wp2_with fail
  go_ret2
  exact ⟨rfl,rfl⟩
 by_cases h4:g = [99,114,101,97,116,101]
 ·subst h4
  have e:formM [99,114,101,97,116,101] = (5,[80,109]):=by decide
  rw [e]
  go_enter Tryz.func156,Tryz.ntmps156
  go_wp2_with fail
  go_ret2
  exact ⟨rfl,rfl⟩
 by_cases h5:g = [109,107,100,105,114]
 ·subst h5
  have e:formM [109,107,100,105,114] = (6,[80,109]):=by decide
  rw [e]
  go_enter Tryz.func156,Tryz.ntmps156
  go_wp2_with fail
  go_ret2
  exact ⟨rfl,rfl⟩
 by_cases h6:g = [115,121,109,108,105,110,107]
 ·subst h6
  have e:formM [115,121,109,108,105,110,107] = (7,[80,68]):=by decide
  rw [e]
  go_enter Tryz.func156,Tryz.ntmps156
  go_wp2_with fail
  go_ret2
  exact ⟨rfl,rfl⟩
 by_cases h7:g = [119,114,105,116,101]
 ·subst h7
  have e:formM [119,114,105,116,101] = (8,[80,111,68]):=by decide
  rw [e]
  go_enter Tryz.func156,Tryz.ntmps156
  go_wp2_with fail
  go_ret2
  exact ⟨rfl,rfl⟩
 by_cases h8:g = [116,114,117,110,99,97,116,101]
 ·subst h8
  have e:formM [116,114,117,110,99,97,116,101] = (9,[80,110]):=by decide
  rw [e]
  go_enter Tryz.func156,Tryz.ntmps156
  go_wp2_with fail
  go_ret2
  exact ⟨rfl,rfl⟩
 by_cases h9:g = [99,104,109,111,100]
 ·subst h9
  have e:formM [99,104,109,111,100] = (10,[80,109]):=by decide
  rw [e]
  go_enter Tryz.func156,Tryz.ntmps156
  go_wp2_with fail
  go_ret2
  exact ⟨rfl,rfl⟩
 by_cases h10:g = [114,101,109,111,118,101]
 ·subst h10
  have e:formM [114,101,109,111,118,101] = (11,[80]):=by decide
  rw [e]
  go_enter Tryz.func156,Tryz.ntmps156
  go_wp2_with fail
  go_ret2
  exact ⟨rfl,rfl⟩
 by_cases h11:g = [114,109,100,105,114]
 ·subst h11
  have e:formM [114,109,100,105,114] = (12,[80]):=by decide
  rw [e]
  go_enter Tryz.func156,Tryz.ntmps156
  go_wp2_with fail
  go_ret2
  exact ⟨rfl,rfl⟩
 by_cases h12:g = [114,101,110,97,109,101]
 ·subst h12
  have e:formM [114,101,110,97,109,101] = (13,[80,81]):=by decide
  rw [e]
  go_enter Tryz.func156,Tryz.ntmps156
  go_wp2_with fail
  go_ret2
  exact ⟨rfl,rfl⟩
 by_cases h13:g = [111,112,101,110]
 ·subst h13
  have e:formM [111,112,101,110] = (14,[80]):=by decide
  rw [e]
  go_enter Tryz.func156,Tryz.ntmps156
  go_wp2_with fail
  go_ret2
  exact ⟨rfl,rfl⟩
 by_cases h14:g = [114,101,97,100,102,100]
 ·subst h14
  have e:formM [114,101,97,100,102,100] = (15,[102,111,110]):=by decide
  rw [e]
  go_enter Tryz.func156,Tryz.ntmps156
  go_wp2_with fail
  go_ret2
  exact ⟨rfl,rfl⟩
 by_cases h15:g = [119,114,105,116,101,102,100]
 ·subst h15
  have e:formM [119,114,105,116,101,102,100] = (16,[102,111,68]):=by decide
  rw [e]
  go_enter Tryz.func156,Tryz.ntmps156
  go_wp2_with fail
  go_ret2
  exact ⟨rfl,rfl⟩
 by_cases h16:g = [99,108,111,115,101]
 ·subst h16
  have e:formM [99,108,111,115,101] = (17,[102]):=by decide
  rw [e]
  go_enter Tryz.func156,Tryz.ntmps156
  go_wp2_with fail
  go_ret2
  exact ⟨rfl,rfl⟩
 have b0:(g == [114,101,97,100]) = false:=beq_eq_false_iff_ne.2 h0
 have c0:([114,101,97,100] == g) = false:=beq_eq_false_iff_ne.2 (Ne.symm h0)
 have b1:(g == [108,105,115,116]) = false:=beq_eq_false_iff_ne.2 h1
 have c1:([108,105,115,116] == g) = false:=beq_eq_false_iff_ne.2 (Ne.symm h1)
 have b2:(g == [115,116,97,116]) = false:=beq_eq_false_iff_ne.2 h2
 have c2:([115,116,97,116] == g) = false:=beq_eq_false_iff_ne.2 (Ne.symm h2)
 have b3:(g == [114,101,97,100,108,105,110,107]) = false:=beq_eq_false_iff_ne.2 h3
 have c3:([114,101,97,100,108,105,110,107] == g) = false:=beq_eq_false_iff_ne.2 (Ne.symm h3)
 have b4:(g == [99,114,101,97,116,101]) = false:=beq_eq_false_iff_ne.2 h4
 have c4:([99,114,101,97,116,101] == g) = false:=beq_eq_false_iff_ne.2 (Ne.symm h4)
 have b5:(g == [109,107,100,105,114]) = false:=beq_eq_false_iff_ne.2 h5
 have c5:([109,107,100,105,114] == g) = false:=beq_eq_false_iff_ne.2 (Ne.symm h5)
 have b6:(g == [115,121,109,108,105,110,107]) = false:=beq_eq_false_iff_ne.2 h6
 have c6:([115,121,109,108,105,110,107] == g) = false:=beq_eq_false_iff_ne.2 (Ne.symm h6)
 have b7:(g == [119,114,105,116,101]) = false:=beq_eq_false_iff_ne.2 h7
 have c7:([119,114,105,116,101] == g) = false:=beq_eq_false_iff_ne.2 (Ne.symm h7)
 have b8:(g == [116,114,117,110,99,97,116,101]) = false:=beq_eq_false_iff_ne.2 h8
 have c8:([116,114,117,110,99,97,116,101] == g) = false:=beq_eq_false_iff_ne.2 (Ne.symm h8)
 have b9:(g == [99,104,109,111,100]) = false:=beq_eq_false_iff_ne.2 h9
 have c9:([99,104,109,111,100] == g) = false:=beq_eq_false_iff_ne.2 (Ne.symm h9)
 have b10:(g == [114,101,109,111,118,101]) = false:=beq_eq_false_iff_ne.2 h10
 have c10:([114,101,109,111,118,101] == g) = false:=beq_eq_false_iff_ne.2 (Ne.symm h10)
 have b11:(g == [114,109,100,105,114]) = false:=beq_eq_false_iff_ne.2 h11
 have c11:([114,109,100,105,114] == g) = false:=beq_eq_false_iff_ne.2 (Ne.symm h11)
 have b12:(g == [114,101,110,97,109,101]) = false:=beq_eq_false_iff_ne.2 h12
 have c12:([114,101,110,97,109,101] == g) = false:=beq_eq_false_iff_ne.2 (Ne.symm h12)
 have b13:(g == [111,112,101,110]) = false:=beq_eq_false_iff_ne.2 h13
 have c13:([111,112,101,110] == g) = false:=beq_eq_false_iff_ne.2 (Ne.symm h13)
 have b14:(g == [114,101,97,100,102,100]) = false:=beq_eq_false_iff_ne.2 h14
 have c14:([114,101,97,100,102,100] == g) = false:=beq_eq_false_iff_ne.2 (Ne.symm h14)
 have b15:(g == [119,114,105,116,101,102,100]) = false:=beq_eq_false_iff_ne.2 h15
 have c15:([119,114,105,116,101,102,100] == g) = false:=beq_eq_false_iff_ne.2 (Ne.symm h15)
 have b16:(g == [99,108,111,115,101]) = false:=beq_eq_false_iff_ne.2 h16
 have c16:([99,108,111,115,101] == g) = false:=beq_eq_false_iff_ne.2 (Ne.symm h16)
 have e:formM g = (18,[80]):=by
  unfold formM formL
  simp only [List.find?,c0,c1,c2,c3,c4,c5,c6,c7,c8,c9,c10,c11,c12,c13,c14,c15,c16]
 clear h0 c0 h1 c1 h2 c2 h3 c3 h4 c4 h5 c5 h6 c6 h7 c7 h8 c8 h9 c9 h10 c10 h11 c11 h12 c12 h13 c13 h14 c14 h15 c15 h16 c16
 rw [e]
 clear e
 go_enter Tryz.func156,Tryz.ntmps156
 go_wp2_with fail
 go_ret2
 exact ⟨rfl,rfl⟩
end Go.Proofs.YtmfpmandkhiknaaGreatDoor.vmm
namespace Go.Proofs.YtmfpmandkhiknaaGreatDoor.vmm
open Go Go.RowKit Ieee
open flt heap
open lex (run_store_float)
set_option maxRecDepth 100000
attribute [local go_sem] run_store_float
abbrev cCs (c:Cal):Array Value := #[.int .i64 c.op,.string ⟨c.path.toArray⟩,.string ⟨c.path2.toArray⟩,.int .i64 c.fd,.int .i64 c.off,.int .i64 c.num,.int .i64 c.mode,.string ⟨c.data.toArray⟩]
abbrev cA (c:Cal):Value:=.agg (cCs c)
abbrev cO (c:Cal):Obj:=.cells (cCs c) 32 (0,0)
def CalP (x:Except Bad Cal) (w:World) (e:Ending) (w':World):Prop:=Below w.heap.size w w' ∧ match x with
 | .ok c=>e = .returned (cA c)
 | .error y=>e = .panicked [{ v:=badV y.1 y.2,recovered:=false }]
theorem con_any (r:UInt8) (n:Int) (b:Bool) (hn:n = r.toNat) (h1:r.toNat < 128) (hb:isTextArg r = b) (hq:decide (0 ≤ Lib.indexByte [80,81,68] r) = b) (w:World):Calls Tryz.prog 157 #[.string ⟨#[80,81,68]⟩,.int .i32 n] w fun e w'=>e = .returned (.bool b) ∧ w = w':=
 (Tryz.strings_ContainsRune_ascii ⟨#[80,81,68]⟩ n w (by omega) (by omega)).mono fun e w' ⟨h2,h3⟩=>⟨h2.trans (by rw [← hq,hn,show ((r.toNat:Int)).toNat.toUInt8 = r by simp]),h3.symm⟩
structure AI (w:World) (C0:Except Bad Cal) (L:Vs) (rs:List UInt8) (i:Nat) (ci:Cal) (wr:World):Prop where
 z:wr.heap[w.heap.size]? = some (cO noCal)
 c:wr.heap[w.heap.size + 1]? = some (cO ci)
 bel:Below w.heap.size w wr
 eq:C0 = argsM ci ((L.drop i).map (·.1)) (rs.drop i)
theorem AI.bad {w wr W:World} {C0:Except Bad Cal} {L:Vs} {rs:List UInt8} {i:Nat} {ci:Cal} (h:AI w C0 L rs i ci wr) (e:argsM ci ((L.drop i).map (·.1)) (rs.drop i) = .error (2201,[])) (hb:Below wr.heap.size wr W):CalP C0 w (.panicked [{ v:=badV 2201 [],recovered:=false }]) W:=by
 rw [h.eq,e]
 exact ⟨h.bel.trans (hb.mono h.bel.size),rfl⟩
theorem AI.put {w wr:World} {C0:Except Bad Cal} {L:Vs} {rs:List UInt8} {i:Nat} {ci c2:Cal} (h:AI w C0 L rs i ci wr) (o:Obj) (u:Value) (k:Nat) (e:C0 = argsM c2 ((L.drop (i + 1)).map (·.1)) (rs.drop (i + 1))) (hc:(cCs ci).setIfInBounds k u = cCs c2):Hid (AI w C0 L rs (i + 1) c2 ((wr.setCell ⟨w.heap.size + 1,k,none⟩ u).alloc o)):=by
 refine ⟨?_,?_,?_,e⟩
 ·refine blk_old ?_ _
  rw [blk_other (by omega)]
  exact h.z
 ·have:=blk_set h.c k u
  rw [hc] at this
  exact blk_old this _
 ·exact (h.bel.setCell (by simp) _).alloc (by have:=h.bel.size;simp;omega) _
set_option maxHeartbeats 8000000 in
theorem asked_any (g:List UInt8) (v:Value) (L:Vs) (w:World) (h:VV w v L) (hok:VsOk L) (hl:L.length = (formM g).2.length) (hl3:L.length ≤ 1000) (hle:∀ r ∈ (formM g).2,r = 80 ∨ r = 81 ∨ r = 68 ∨ r = 111 ∨ r = 110 ∨ r = 109 ∨ r = 102) :
  Calls Tryz.prog 119 #[.string ⟨g.toArray⟩,v] w (CalP (argsM { noCal with op:=(formM g).1 } (L.map (·.1)) (formM g).2) w):=by
 have HF:=Lib.hid (fun W=>form_any g W)
 generalize (formM g).1 = op at *
 generalize (formM g).2 = rs at *
 obtain ⟨C0,hC0⟩:∃ C0,Hid (C0 = argsM { noCal with op:=op } (L.map (·.1)) rs):=⟨_,rfl⟩
 rw [← hC0.out]
 have HV:=Lib.hid h
 have HOK:=Lib.hid hok
 have HLE:=Lib.hid hle
 obtain ⟨a,c,rfl⟩:=h.slice
 clear h hok hle
 obtain ⟨s,hs⟩:∃ s:ByteArray,Hid (s = ⟨rs.toArray⟩):=⟨_,rfl⟩
 rw [← hs.out] at HF
 have hsz:s.size = L.length:=by rw [hs.out,hl];rfl
 go_enter Tryz.func119,Tryz.ntmps119
 go_wp2_with (go_at_call 156;refine (HF.out _).mono ?_;rintro e w' ⟨rfl,rfl⟩)
 go_loopg [22] L.length (fun kk v22 wr=>∃ (i:Nat) (ci:Cal),v22 = .int .i64 i ∧ i + kk = L.length ∧ Hid (AI w C0 L rs i ci wr))
 case atStart =>
  refine ⟨0,{ noCal with op:=op },rfl,by omega,?_,?_,?_,hC0.out⟩
  ·exact blk_old (blk_new w _) _
  ·have h2:=blk_new (w.alloc (cO noCal)) (cO { noCal with op:=op })
   rw [show (w.alloc (cO noCal)).heap.size = w.heap.size + 1 by simp] at h2
   exact h2
  ·exact ((Below.refl _ _).alloc (Nat.le_refl _) _).alloc (by simp) _
 case round =>
  obtain ⟨i,ci,rfl,hik,HR⟩:=hrel
  by_cases hlt:i < L.length
  ·cases gk with
   | zero=>omega
   | succ gk =>
   obtain ⟨x,hx⟩:∃ x,L[i]? = some x:=⟨_,List.getElem?_eq_getElem hlt⟩
   obtain ⟨-,hn1,hn2,g0,off,rfl,hg,c0,c1,c2⟩:=(HV.out.below HR.out.bel).at hx
   unfold maxLen at hn2
   have hI:(i:Int) < (L.length:Int):=by omega
   have hok1:=HOK.out x (List.mem_of_getElem? hx)
   obtain ⟨⟨ib,tb,nb⟩,rb⟩:=x
   simp only at c0 c1 c2
   have HW:Hid (∀ W,Calls Tryz.prog 155 #[fv rb] W fun e w'=>e = .returned (.tuple #[.int .i64 (wholeN nb),.bool (isW nb)]) ∧ W = w'):=fun W=>by
    have h:=Whole_any rb W hok1.2
    have e:cf rb = nb:=hok1.1
    rw [← wholeN_cf rb,← isW_cf rb,e] at h
    exact h
   have hls:i < s.size:=by omega
   have hd:rs.drop i = (s[i]'hls) :: rs.drop (i + 1):=by
    have h:=num.drop_cons s i hls
    have e:s.data.toList = rs:=by rw [hs.out]
    rwa [e] at h
   have hd2:(L.drop i).map (·.1) = ⟨ib,tb,nb⟩ :: (L.drop (i + 1)).map (·.1):=by
    rw [List.drop_eq_getElem_cons hlt,List.map_cons]
    have e:L[i] = (⟨ib,tb,nb⟩,rb):=by
     rw [List.getElem?_eq_getElem hlt] at hx
     exact Option.some.inj hx
    rw [e]
   have hrm:(s[i]'hls) ∈ rs:=by
    have:(s[i]'hls) ∈ rs.drop i:=by rw [hd];exact List.mem_cons_self
    exact List.mem_of_mem_drop this
   have hcase:=HLE.out _ hrm
   have hstep:∀ r:UInt8,r = (s[i]'hls) → argsM ci ((L.drop i).map (·.1)) (rs.drop i) = if (ib != isTextArg r) || (!isTextArg r && !isW nb) then .error (2201,[]) else argsM (putArg ci r ⟨ib,tb,nb⟩) ((L.drop (i + 1)).map (·.1)) (rs.drop (i + 1)):=by
    intro r hr
    rw [hd,hd2,hr]
    rfl
   clear hd hd2 hrm hx hok1
   rcases hcase with hr | hr | hr | hr | hr | hr | hr
   ·have hrn:(s[i]'hls).toNat = 80:=by rw [hr];rfl
    have HCR:=Lib.hid (fun W=>con_any 80 80 true rfl (by decide) rfl (by decide) W)
    have HS:=Lib.hid (hstep 80 hr.symm)
    clear hr
    cases ib
    ·have HBAD:Hid (∀ W,Below wr.heap.size wr W → CalP C0 w (.panicked [{ v:=badV 2201 [],recovered:=false }]) W):=fun W hb=>HR.out.bad (HS.out.trans rfl) hb
     clear HS
     have z0:=blk_cell (HR.out.z) 0
     have z1:=blk_cell (HR.out.z) 1
     have z2:=blk_cell (HR.out.z) 2
     have z3:=blk_cell (HR.out.z) 3
     have z4:=blk_cell (HR.out.z) 4
     have z5:=blk_cell (HR.out.z) 5
     have z6:=blk_cell (HR.out.z) 6
     have z7:=blk_cell (HR.out.z) 7
     have zf0:=blk_free (HR.out.z) 0
     have zf1:=blk_free (HR.out.z) 1
     have zf2:=blk_free (HR.out.z) 2
     have zf3:=blk_free (HR.out.z) 3
     have zf4:=blk_free (HR.out.z) 4
     have zf5:=blk_free (HR.out.z) 5
     have zf6:=blk_free (HR.out.z) 6
     have zf7:=blk_free (HR.out.z) 7
     have zl:=blk_lt (HR.out.z)
     simp only [List.getElem?_toArray,List.getElem?_cons_zero,List.getElem?_cons_succ] at z0 z1 z2 z3 z4 z5 z6 z7
     have k0:=blk_cell (HR.out.c) 0
     have k1:=blk_cell (HR.out.c) 1
     have k2:=blk_cell (HR.out.c) 2
     have k3:=blk_cell (HR.out.c) 3
     have k4:=blk_cell (HR.out.c) 4
     have k5:=blk_cell (HR.out.c) 5
     have k6:=blk_cell (HR.out.c) 6
     have k7:=blk_cell (HR.out.c) 7
     have kf0:=blk_free (HR.out.c) 0
     have kf1:=blk_free (HR.out.c) 1
     have kf2:=blk_free (HR.out.c) 2
     have kf3:=blk_free (HR.out.c) 3
     have kf4:=blk_free (HR.out.c) 4
     have kf5:=blk_free (HR.out.c) 5
     have kf6:=blk_free (HR.out.c) 6
     have kf7:=blk_free (HR.out.c) 7
     have kl:=blk_lt (HR.out.c)
     simp only [List.getElem?_toArray,List.getElem?_cons_zero,List.getElem?_cons_succ] at k0 k1 k2 k3 k4 k5 k6 k7
     go_wp2_with (first | (go_at_call 155;refine (HW.out _).mono ?_;rintro e w' ⟨rfl,rfl⟩) | (go_at_call 157;refine (HCR.out _).mono ?_;rintro e w' ⟨rfl,rfl⟩) | (go_at_call 60;refine (fail_yes _ _).mono ?_;rintro e w' ⟨rfl,rfl⟩;exact ⟨rfl,HBAD.out _ ((Below.refl _ _).alloc (Nat.le_refl _) _)⟩))
    ·have HGOOD:Hid (C0 = argsM (putArg ci 80 ⟨true,tb,nb⟩) ((L.drop (i + 1)).map (·.1)) (rs.drop (i + 1))):=HR.out.eq.trans (HS.out.trans rfl)
     clear HS
     have z0:=blk_cell (HR.out.z) 0
     have z1:=blk_cell (HR.out.z) 1
     have z2:=blk_cell (HR.out.z) 2
     have z3:=blk_cell (HR.out.z) 3
     have z4:=blk_cell (HR.out.z) 4
     have z5:=blk_cell (HR.out.z) 5
     have z6:=blk_cell (HR.out.z) 6
     have z7:=blk_cell (HR.out.z) 7
     have zf0:=blk_free (HR.out.z) 0
     have zf1:=blk_free (HR.out.z) 1
     have zf2:=blk_free (HR.out.z) 2
     have zf3:=blk_free (HR.out.z) 3
     have zf4:=blk_free (HR.out.z) 4
     have zf5:=blk_free (HR.out.z) 5
     have zf6:=blk_free (HR.out.z) 6
     have zf7:=blk_free (HR.out.z) 7
     have zl:=blk_lt (HR.out.z)
     simp only [List.getElem?_toArray,List.getElem?_cons_zero,List.getElem?_cons_succ] at z0 z1 z2 z3 z4 z5 z6 z7
     have k0:=blk_cell (HR.out.c) 0
     have k1:=blk_cell (HR.out.c) 1
     have k2:=blk_cell (HR.out.c) 2
     have k3:=blk_cell (HR.out.c) 3
     have k4:=blk_cell (HR.out.c) 4
     have k5:=blk_cell (HR.out.c) 5
     have k6:=blk_cell (HR.out.c) 6
     have k7:=blk_cell (HR.out.c) 7
     have kf0:=blk_free (HR.out.c) 0
     have kf1:=blk_free (HR.out.c) 1
     have kf2:=blk_free (HR.out.c) 2
     have kf3:=blk_free (HR.out.c) 3
     have kf4:=blk_free (HR.out.c) 4
     have kf5:=blk_free (HR.out.c) 5
     have kf6:=blk_free (HR.out.c) 6
     have kf7:=blk_free (HR.out.c) 7
     have kl:=blk_lt (HR.out.c)
     simp only [List.getElem?_toArray,List.getElem?_cons_zero,List.getElem?_cons_succ] at k0 k1 k2 k3 k4 k5 k6 k7
     go_wp2_with (first | (go_at_call 155;refine (HW.out _).mono ?_;rintro e w' ⟨rfl,rfl⟩) | (go_at_call 157;refine (HCR.out _).mono ?_;rintro e w' ⟨rfl,rfl⟩) | (go_at_call 60;refine (fail_no _ _).mono ?_;rintro e w' ⟨rfl,rfl⟩))
     go_roundg gk
     case rel=>exact ⟨i + 1,_,by go_num,by omega,AI.put HR.out _ _ 1 HGOOD.out rfl⟩
     case measure=>omega
   ·have hrn:(s[i]'hls).toNat = 81:=by rw [hr];rfl
    have HCR:=Lib.hid (fun W=>con_any 81 81 true rfl (by decide) rfl (by decide) W)
    have HS:=Lib.hid (hstep 81 hr.symm)
    clear hr
    cases ib
    ·have HBAD:Hid (∀ W,Below wr.heap.size wr W → CalP C0 w (.panicked [{ v:=badV 2201 [],recovered:=false }]) W):=fun W hb=>HR.out.bad (HS.out.trans rfl) hb
     clear HS
     have z0:=blk_cell (HR.out.z) 0
     have z1:=blk_cell (HR.out.z) 1
     have z2:=blk_cell (HR.out.z) 2
     have z3:=blk_cell (HR.out.z) 3
     have z4:=blk_cell (HR.out.z) 4
     have z5:=blk_cell (HR.out.z) 5
     have z6:=blk_cell (HR.out.z) 6
     have z7:=blk_cell (HR.out.z) 7
     have zf0:=blk_free (HR.out.z) 0
     have zf1:=blk_free (HR.out.z) 1
     have zf2:=blk_free (HR.out.z) 2
     have zf3:=blk_free (HR.out.z) 3
     have zf4:=blk_free (HR.out.z) 4
     have zf5:=blk_free (HR.out.z) 5
     have zf6:=blk_free (HR.out.z) 6
     have zf7:=blk_free (HR.out.z) 7
     have zl:=blk_lt (HR.out.z)
     simp only [List.getElem?_toArray,List.getElem?_cons_zero,List.getElem?_cons_succ] at z0 z1 z2 z3 z4 z5 z6 z7
     have k0:=blk_cell (HR.out.c) 0
     have k1:=blk_cell (HR.out.c) 1
     have k2:=blk_cell (HR.out.c) 2
     have k3:=blk_cell (HR.out.c) 3
     have k4:=blk_cell (HR.out.c) 4
     have k5:=blk_cell (HR.out.c) 5
     have k6:=blk_cell (HR.out.c) 6
     have k7:=blk_cell (HR.out.c) 7
     have kf0:=blk_free (HR.out.c) 0
     have kf1:=blk_free (HR.out.c) 1
     have kf2:=blk_free (HR.out.c) 2
     have kf3:=blk_free (HR.out.c) 3
     have kf4:=blk_free (HR.out.c) 4
     have kf5:=blk_free (HR.out.c) 5
     have kf6:=blk_free (HR.out.c) 6
     have kf7:=blk_free (HR.out.c) 7
     have kl:=blk_lt (HR.out.c)
     simp only [List.getElem?_toArray,List.getElem?_cons_zero,List.getElem?_cons_succ] at k0 k1 k2 k3 k4 k5 k6 k7
     go_wp2_with (first | (go_at_call 155;refine (HW.out _).mono ?_;rintro e w' ⟨rfl,rfl⟩) | (go_at_call 157;refine (HCR.out _).mono ?_;rintro e w' ⟨rfl,rfl⟩) | (go_at_call 60;refine (fail_yes _ _).mono ?_;rintro e w' ⟨rfl,rfl⟩;exact ⟨rfl,HBAD.out _ ((Below.refl _ _).alloc (Nat.le_refl _) _)⟩))
    ·have HGOOD:Hid (C0 = argsM (putArg ci 81 ⟨true,tb,nb⟩) ((L.drop (i + 1)).map (·.1)) (rs.drop (i + 1))):=HR.out.eq.trans (HS.out.trans rfl)
     clear HS
     have z0:=blk_cell (HR.out.z) 0
     have z1:=blk_cell (HR.out.z) 1
     have z2:=blk_cell (HR.out.z) 2
     have z3:=blk_cell (HR.out.z) 3
     have z4:=blk_cell (HR.out.z) 4
     have z5:=blk_cell (HR.out.z) 5
     have z6:=blk_cell (HR.out.z) 6
     have z7:=blk_cell (HR.out.z) 7
     have zf0:=blk_free (HR.out.z) 0
     have zf1:=blk_free (HR.out.z) 1
     have zf2:=blk_free (HR.out.z) 2
     have zf3:=blk_free (HR.out.z) 3
     have zf4:=blk_free (HR.out.z) 4
     have zf5:=blk_free (HR.out.z) 5
     have zf6:=blk_free (HR.out.z) 6
     have zf7:=blk_free (HR.out.z) 7
     have zl:=blk_lt (HR.out.z)
     simp only [List.getElem?_toArray,List.getElem?_cons_zero,List.getElem?_cons_succ] at z0 z1 z2 z3 z4 z5 z6 z7
     have k0:=blk_cell (HR.out.c) 0
     have k1:=blk_cell (HR.out.c) 1
     have k2:=blk_cell (HR.out.c) 2
     have k3:=blk_cell (HR.out.c) 3
     have k4:=blk_cell (HR.out.c) 4
     have k5:=blk_cell (HR.out.c) 5
     have k6:=blk_cell (HR.out.c) 6
     have k7:=blk_cell (HR.out.c) 7
     have kf0:=blk_free (HR.out.c) 0
     have kf1:=blk_free (HR.out.c) 1
     have kf2:=blk_free (HR.out.c) 2
     have kf3:=blk_free (HR.out.c) 3
     have kf4:=blk_free (HR.out.c) 4
     have kf5:=blk_free (HR.out.c) 5
     have kf6:=blk_free (HR.out.c) 6
     have kf7:=blk_free (HR.out.c) 7
     have kl:=blk_lt (HR.out.c)
     simp only [List.getElem?_toArray,List.getElem?_cons_zero,List.getElem?_cons_succ] at k0 k1 k2 k3 k4 k5 k6 k7
     go_wp2_with (first | (go_at_call 155;refine (HW.out _).mono ?_;rintro e w' ⟨rfl,rfl⟩) | (go_at_call 157;refine (HCR.out _).mono ?_;rintro e w' ⟨rfl,rfl⟩) | (go_at_call 60;refine (fail_no _ _).mono ?_;rintro e w' ⟨rfl,rfl⟩))
     go_roundg gk
     case rel=>exact ⟨i + 1,_,by go_num,by omega,AI.put HR.out _ _ 2 HGOOD.out rfl⟩
     case measure=>omega
   ·have hrn:(s[i]'hls).toNat = 68:=by rw [hr];rfl
    have HCR:=Lib.hid (fun W=>con_any 68 68 true rfl (by decide) rfl (by decide) W)
    have HS:=Lib.hid (hstep 68 hr.symm)
    clear hr
    cases ib
    ·have HBAD:Hid (∀ W,Below wr.heap.size wr W → CalP C0 w (.panicked [{ v:=badV 2201 [],recovered:=false }]) W):=fun W hb=>HR.out.bad (HS.out.trans rfl) hb
     clear HS
     have z0:=blk_cell (HR.out.z) 0
     have z1:=blk_cell (HR.out.z) 1
     have z2:=blk_cell (HR.out.z) 2
     have z3:=blk_cell (HR.out.z) 3
     have z4:=blk_cell (HR.out.z) 4
     have z5:=blk_cell (HR.out.z) 5
     have z6:=blk_cell (HR.out.z) 6
     have z7:=blk_cell (HR.out.z) 7
     have zf0:=blk_free (HR.out.z) 0
     have zf1:=blk_free (HR.out.z) 1
     have zf2:=blk_free (HR.out.z) 2
     have zf3:=blk_free (HR.out.z) 3
     have zf4:=blk_free (HR.out.z) 4
     have zf5:=blk_free (HR.out.z) 5
     have zf6:=blk_free (HR.out.z) 6
     have zf7:=blk_free (HR.out.z) 7
     have zl:=blk_lt (HR.out.z)
     simp only [List.getElem?_toArray,List.getElem?_cons_zero,List.getElem?_cons_succ] at z0 z1 z2 z3 z4 z5 z6 z7
     have k0:=blk_cell (HR.out.c) 0
     have k1:=blk_cell (HR.out.c) 1
     have k2:=blk_cell (HR.out.c) 2
     have k3:=blk_cell (HR.out.c) 3
     have k4:=blk_cell (HR.out.c) 4
     have k5:=blk_cell (HR.out.c) 5
     have k6:=blk_cell (HR.out.c) 6
     have k7:=blk_cell (HR.out.c) 7
     have kf0:=blk_free (HR.out.c) 0
     have kf1:=blk_free (HR.out.c) 1
     have kf2:=blk_free (HR.out.c) 2
     have kf3:=blk_free (HR.out.c) 3
     have kf4:=blk_free (HR.out.c) 4
     have kf5:=blk_free (HR.out.c) 5
     have kf6:=blk_free (HR.out.c) 6
     have kf7:=blk_free (HR.out.c) 7
     have kl:=blk_lt (HR.out.c)
     simp only [List.getElem?_toArray,List.getElem?_cons_zero,List.getElem?_cons_succ] at k0 k1 k2 k3 k4 k5 k6 k7
     go_wp2_with (first | (go_at_call 155;refine (HW.out _).mono ?_;rintro e w' ⟨rfl,rfl⟩) | (go_at_call 157;refine (HCR.out _).mono ?_;rintro e w' ⟨rfl,rfl⟩) | (go_at_call 60;refine (fail_yes _ _).mono ?_;rintro e w' ⟨rfl,rfl⟩;exact ⟨rfl,HBAD.out _ ((Below.refl _ _).alloc (Nat.le_refl _) _)⟩))
    ·have HGOOD:Hid (C0 = argsM (putArg ci 68 ⟨true,tb,nb⟩) ((L.drop (i + 1)).map (·.1)) (rs.drop (i + 1))):=HR.out.eq.trans (HS.out.trans rfl)
     clear HS
     have z0:=blk_cell (HR.out.z) 0
     have z1:=blk_cell (HR.out.z) 1
     have z2:=blk_cell (HR.out.z) 2
     have z3:=blk_cell (HR.out.z) 3
     have z4:=blk_cell (HR.out.z) 4
     have z5:=blk_cell (HR.out.z) 5
     have z6:=blk_cell (HR.out.z) 6
     have z7:=blk_cell (HR.out.z) 7
     have zf0:=blk_free (HR.out.z) 0
     have zf1:=blk_free (HR.out.z) 1
     have zf2:=blk_free (HR.out.z) 2
     have zf3:=blk_free (HR.out.z) 3
     have zf4:=blk_free (HR.out.z) 4
     have zf5:=blk_free (HR.out.z) 5
     have zf6:=blk_free (HR.out.z) 6
     have zf7:=blk_free (HR.out.z) 7
     have zl:=blk_lt (HR.out.z)
     simp only [List.getElem?_toArray,List.getElem?_cons_zero,List.getElem?_cons_succ] at z0 z1 z2 z3 z4 z5 z6 z7
     have k0:=blk_cell (HR.out.c) 0
     have k1:=blk_cell (HR.out.c) 1
     have k2:=blk_cell (HR.out.c) 2
     have k3:=blk_cell (HR.out.c) 3
     have k4:=blk_cell (HR.out.c) 4
     have k5:=blk_cell (HR.out.c) 5
     have k6:=blk_cell (HR.out.c) 6
     have k7:=blk_cell (HR.out.c) 7
     have kf0:=blk_free (HR.out.c) 0
     have kf1:=blk_free (HR.out.c) 1
     have kf2:=blk_free (HR.out.c) 2
     have kf3:=blk_free (HR.out.c) 3
     have kf4:=blk_free (HR.out.c) 4
     have kf5:=blk_free (HR.out.c) 5
     have kf6:=blk_free (HR.out.c) 6
     have kf7:=blk_free (HR.out.c) 7
     have kl:=blk_lt (HR.out.c)
     simp only [List.getElem?_toArray,List.getElem?_cons_zero,List.getElem?_cons_succ] at k0 k1 k2 k3 k4 k5 k6 k7
     go_wp2_with (first | (go_at_call 155;refine (HW.out _).mono ?_;rintro e w' ⟨rfl,rfl⟩) | (go_at_call 157;refine (HCR.out _).mono ?_;rintro e w' ⟨rfl,rfl⟩) | (go_at_call 60;refine (fail_no _ _).mono ?_;rintro e w' ⟨rfl,rfl⟩))
     go_roundg gk
     case rel=>exact ⟨i + 1,_,by go_num,by omega,AI.put HR.out _ _ 7 HGOOD.out rfl⟩
     case measure=>omega
   ·have hrn:(s[i]'hls).toNat = 111:=by rw [hr];rfl
    have HCR:=Lib.hid (fun W=>con_any 111 111 false rfl (by decide) rfl (by decide) W)
    have HS:=Lib.hid (hstep 111 hr.symm)
    clear hr
    cases ib
    ·cases hq:isW nb with
     | false =>
      rw [hq] at HW
      have HBAD:Hid (∀ W,Below wr.heap.size wr W → CalP C0 w (.panicked [{ v:=badV 2201 [],recovered:=false }]) W):=fun W hb=>HR.out.bad (HS.out.trans (by simp [isTextArg,hq])) hb
      clear HS
      have z0:=blk_cell (HR.out.z) 0
      have z1:=blk_cell (HR.out.z) 1
      have z2:=blk_cell (HR.out.z) 2
      have z3:=blk_cell (HR.out.z) 3
      have z4:=blk_cell (HR.out.z) 4
      have z5:=blk_cell (HR.out.z) 5
      have z6:=blk_cell (HR.out.z) 6
      have z7:=blk_cell (HR.out.z) 7
      have zf0:=blk_free (HR.out.z) 0
      have zf1:=blk_free (HR.out.z) 1
      have zf2:=blk_free (HR.out.z) 2
      have zf3:=blk_free (HR.out.z) 3
      have zf4:=blk_free (HR.out.z) 4
      have zf5:=blk_free (HR.out.z) 5
      have zf6:=blk_free (HR.out.z) 6
      have zf7:=blk_free (HR.out.z) 7
      have zl:=blk_lt (HR.out.z)
      simp only [List.getElem?_toArray,List.getElem?_cons_zero,List.getElem?_cons_succ] at z0 z1 z2 z3 z4 z5 z6 z7
      have k0:=blk_cell (HR.out.c) 0
      have k1:=blk_cell (HR.out.c) 1
      have k2:=blk_cell (HR.out.c) 2
      have k3:=blk_cell (HR.out.c) 3
      have k4:=blk_cell (HR.out.c) 4
      have k5:=blk_cell (HR.out.c) 5
      have k6:=blk_cell (HR.out.c) 6
      have k7:=blk_cell (HR.out.c) 7
      have kf0:=blk_free (HR.out.c) 0
      have kf1:=blk_free (HR.out.c) 1
      have kf2:=blk_free (HR.out.c) 2
      have kf3:=blk_free (HR.out.c) 3
      have kf4:=blk_free (HR.out.c) 4
      have kf5:=blk_free (HR.out.c) 5
      have kf6:=blk_free (HR.out.c) 6
      have kf7:=blk_free (HR.out.c) 7
      have kl:=blk_lt (HR.out.c)
      simp only [List.getElem?_toArray,List.getElem?_cons_zero,List.getElem?_cons_succ] at k0 k1 k2 k3 k4 k5 k6 k7
      go_wp2_with (first | (go_at_call 155;refine (HW.out _).mono ?_;rintro e w' ⟨rfl,rfl⟩) | (go_at_call 157;refine (HCR.out _).mono ?_;rintro e w' ⟨rfl,rfl⟩) | (go_at_call 60;refine (fail_yes _ _).mono ?_;rintro e w' ⟨rfl,rfl⟩;exact ⟨rfl,HBAD.out _ ((Below.refl _ _).alloc (Nat.le_refl _) _)⟩))
     | true =>
      rw [hq] at HW
      have HGOOD:Hid (C0 = argsM (putArg ci 111 ⟨false,tb,nb⟩) ((L.drop (i + 1)).map (·.1)) (rs.drop (i + 1))):=HR.out.eq.trans (HS.out.trans (by simp [isTextArg,hq]))
      clear HS
      have z0:=blk_cell (HR.out.z) 0
      have z1:=blk_cell (HR.out.z) 1
      have z2:=blk_cell (HR.out.z) 2
      have z3:=blk_cell (HR.out.z) 3
      have z4:=blk_cell (HR.out.z) 4
      have z5:=blk_cell (HR.out.z) 5
      have z6:=blk_cell (HR.out.z) 6
      have z7:=blk_cell (HR.out.z) 7
      have zf0:=blk_free (HR.out.z) 0
      have zf1:=blk_free (HR.out.z) 1
      have zf2:=blk_free (HR.out.z) 2
      have zf3:=blk_free (HR.out.z) 3
      have zf4:=blk_free (HR.out.z) 4
      have zf5:=blk_free (HR.out.z) 5
      have zf6:=blk_free (HR.out.z) 6
      have zf7:=blk_free (HR.out.z) 7
      have zl:=blk_lt (HR.out.z)
      simp only [List.getElem?_toArray,List.getElem?_cons_zero,List.getElem?_cons_succ] at z0 z1 z2 z3 z4 z5 z6 z7
      have k0:=blk_cell (HR.out.c) 0
      have k1:=blk_cell (HR.out.c) 1
      have k2:=blk_cell (HR.out.c) 2
      have k3:=blk_cell (HR.out.c) 3
      have k4:=blk_cell (HR.out.c) 4
      have k5:=blk_cell (HR.out.c) 5
      have k6:=blk_cell (HR.out.c) 6
      have k7:=blk_cell (HR.out.c) 7
      have kf0:=blk_free (HR.out.c) 0
      have kf1:=blk_free (HR.out.c) 1
      have kf2:=blk_free (HR.out.c) 2
      have kf3:=blk_free (HR.out.c) 3
      have kf4:=blk_free (HR.out.c) 4
      have kf5:=blk_free (HR.out.c) 5
      have kf6:=blk_free (HR.out.c) 6
      have kf7:=blk_free (HR.out.c) 7
      have kl:=blk_lt (HR.out.c)
      simp only [List.getElem?_toArray,List.getElem?_cons_zero,List.getElem?_cons_succ] at k0 k1 k2 k3 k4 k5 k6 k7
      go_wp2_with (first | (go_at_call 155;refine (HW.out _).mono ?_;rintro e w' ⟨rfl,rfl⟩) | (go_at_call 157;refine (HCR.out _).mono ?_;rintro e w' ⟨rfl,rfl⟩) | (go_at_call 60;refine (fail_no _ _).mono ?_;rintro e w' ⟨rfl,rfl⟩))
      go_roundg gk
      case rel=>exact ⟨i + 1,_,by go_num,by omega,AI.put HR.out _ _ 4 HGOOD.out rfl⟩
      case measure=>omega
    ·have HBAD:Hid (∀ W,Below wr.heap.size wr W → CalP C0 w (.panicked [{ v:=badV 2201 [],recovered:=false }]) W):=fun W hb=>HR.out.bad (HS.out.trans rfl) hb
     clear HS
     have z0:=blk_cell (HR.out.z) 0
     have z1:=blk_cell (HR.out.z) 1
     have z2:=blk_cell (HR.out.z) 2
     have z3:=blk_cell (HR.out.z) 3
     have z4:=blk_cell (HR.out.z) 4
     have z5:=blk_cell (HR.out.z) 5
     have z6:=blk_cell (HR.out.z) 6
     have z7:=blk_cell (HR.out.z) 7
     have zf0:=blk_free (HR.out.z) 0
     have zf1:=blk_free (HR.out.z) 1
     have zf2:=blk_free (HR.out.z) 2
     have zf3:=blk_free (HR.out.z) 3
     have zf4:=blk_free (HR.out.z) 4
     have zf5:=blk_free (HR.out.z) 5
     have zf6:=blk_free (HR.out.z) 6
     have zf7:=blk_free (HR.out.z) 7
     have zl:=blk_lt (HR.out.z)
     simp only [List.getElem?_toArray,List.getElem?_cons_zero,List.getElem?_cons_succ] at z0 z1 z2 z3 z4 z5 z6 z7
     have k0:=blk_cell (HR.out.c) 0
     have k1:=blk_cell (HR.out.c) 1
     have k2:=blk_cell (HR.out.c) 2
     have k3:=blk_cell (HR.out.c) 3
     have k4:=blk_cell (HR.out.c) 4
     have k5:=blk_cell (HR.out.c) 5
     have k6:=blk_cell (HR.out.c) 6
     have k7:=blk_cell (HR.out.c) 7
     have kf0:=blk_free (HR.out.c) 0
     have kf1:=blk_free (HR.out.c) 1
     have kf2:=blk_free (HR.out.c) 2
     have kf3:=blk_free (HR.out.c) 3
     have kf4:=blk_free (HR.out.c) 4
     have kf5:=blk_free (HR.out.c) 5
     have kf6:=blk_free (HR.out.c) 6
     have kf7:=blk_free (HR.out.c) 7
     have kl:=blk_lt (HR.out.c)
     simp only [List.getElem?_toArray,List.getElem?_cons_zero,List.getElem?_cons_succ] at k0 k1 k2 k3 k4 k5 k6 k7
     go_wp2_with (first | (go_at_call 155;refine (HW.out _).mono ?_;rintro e w' ⟨rfl,rfl⟩) | (go_at_call 157;refine (HCR.out _).mono ?_;rintro e w' ⟨rfl,rfl⟩) | (go_at_call 60;refine (fail_yes _ _).mono ?_;rintro e w' ⟨rfl,rfl⟩;exact ⟨rfl,HBAD.out _ ((Below.refl _ _).alloc (Nat.le_refl _) _)⟩))
   ·have hrn:(s[i]'hls).toNat = 110:=by rw [hr];rfl
    have HCR:=Lib.hid (fun W=>con_any 110 110 false rfl (by decide) rfl (by decide) W)
    have HS:=Lib.hid (hstep 110 hr.symm)
    clear hr
    cases ib
    ·cases hq:isW nb with
     | false =>
      rw [hq] at HW
      have HBAD:Hid (∀ W,Below wr.heap.size wr W → CalP C0 w (.panicked [{ v:=badV 2201 [],recovered:=false }]) W):=fun W hb=>HR.out.bad (HS.out.trans (by simp [isTextArg,hq])) hb
      clear HS
      have z0:=blk_cell (HR.out.z) 0
      have z1:=blk_cell (HR.out.z) 1
      have z2:=blk_cell (HR.out.z) 2
      have z3:=blk_cell (HR.out.z) 3
      have z4:=blk_cell (HR.out.z) 4
      have z5:=blk_cell (HR.out.z) 5
      have z6:=blk_cell (HR.out.z) 6
      have z7:=blk_cell (HR.out.z) 7
      have zf0:=blk_free (HR.out.z) 0
      have zf1:=blk_free (HR.out.z) 1
      have zf2:=blk_free (HR.out.z) 2
      have zf3:=blk_free (HR.out.z) 3
      have zf4:=blk_free (HR.out.z) 4
      have zf5:=blk_free (HR.out.z) 5
      have zf6:=blk_free (HR.out.z) 6
      have zf7:=blk_free (HR.out.z) 7
      have zl:=blk_lt (HR.out.z)
      simp only [List.getElem?_toArray,List.getElem?_cons_zero,List.getElem?_cons_succ] at z0 z1 z2 z3 z4 z5 z6 z7
      have k0:=blk_cell (HR.out.c) 0
      have k1:=blk_cell (HR.out.c) 1
      have k2:=blk_cell (HR.out.c) 2
      have k3:=blk_cell (HR.out.c) 3
      have k4:=blk_cell (HR.out.c) 4
      have k5:=blk_cell (HR.out.c) 5
      have k6:=blk_cell (HR.out.c) 6
      have k7:=blk_cell (HR.out.c) 7
      have kf0:=blk_free (HR.out.c) 0
      have kf1:=blk_free (HR.out.c) 1
      have kf2:=blk_free (HR.out.c) 2
      have kf3:=blk_free (HR.out.c) 3
      have kf4:=blk_free (HR.out.c) 4
      have kf5:=blk_free (HR.out.c) 5
      have kf6:=blk_free (HR.out.c) 6
      have kf7:=blk_free (HR.out.c) 7
      have kl:=blk_lt (HR.out.c)
      simp only [List.getElem?_toArray,List.getElem?_cons_zero,List.getElem?_cons_succ] at k0 k1 k2 k3 k4 k5 k6 k7
      go_wp2_with (first | (go_at_call 155;refine (HW.out _).mono ?_;rintro e w' ⟨rfl,rfl⟩) | (go_at_call 157;refine (HCR.out _).mono ?_;rintro e w' ⟨rfl,rfl⟩) | (go_at_call 60;refine (fail_yes _ _).mono ?_;rintro e w' ⟨rfl,rfl⟩;exact ⟨rfl,HBAD.out _ ((Below.refl _ _).alloc (Nat.le_refl _) _)⟩))
     | true =>
      rw [hq] at HW
      have HGOOD:Hid (C0 = argsM (putArg ci 110 ⟨false,tb,nb⟩) ((L.drop (i + 1)).map (·.1)) (rs.drop (i + 1))):=HR.out.eq.trans (HS.out.trans (by simp [isTextArg,hq]))
      clear HS
      have z0:=blk_cell (HR.out.z) 0
      have z1:=blk_cell (HR.out.z) 1
      have z2:=blk_cell (HR.out.z) 2
      have z3:=blk_cell (HR.out.z) 3
      have z4:=blk_cell (HR.out.z) 4
      have z5:=blk_cell (HR.out.z) 5
      have z6:=blk_cell (HR.out.z) 6
      have z7:=blk_cell (HR.out.z) 7
      have zf0:=blk_free (HR.out.z) 0
      have zf1:=blk_free (HR.out.z) 1
      have zf2:=blk_free (HR.out.z) 2
      have zf3:=blk_free (HR.out.z) 3
      have zf4:=blk_free (HR.out.z) 4
      have zf5:=blk_free (HR.out.z) 5
      have zf6:=blk_free (HR.out.z) 6
      have zf7:=blk_free (HR.out.z) 7
      have zl:=blk_lt (HR.out.z)
      simp only [List.getElem?_toArray,List.getElem?_cons_zero,List.getElem?_cons_succ] at z0 z1 z2 z3 z4 z5 z6 z7
      have k0:=blk_cell (HR.out.c) 0
      have k1:=blk_cell (HR.out.c) 1
      have k2:=blk_cell (HR.out.c) 2
      have k3:=blk_cell (HR.out.c) 3
      have k4:=blk_cell (HR.out.c) 4
      have k5:=blk_cell (HR.out.c) 5
      have k6:=blk_cell (HR.out.c) 6
      have k7:=blk_cell (HR.out.c) 7
      have kf0:=blk_free (HR.out.c) 0
      have kf1:=blk_free (HR.out.c) 1
      have kf2:=blk_free (HR.out.c) 2
      have kf3:=blk_free (HR.out.c) 3
      have kf4:=blk_free (HR.out.c) 4
      have kf5:=blk_free (HR.out.c) 5
      have kf6:=blk_free (HR.out.c) 6
      have kf7:=blk_free (HR.out.c) 7
      have kl:=blk_lt (HR.out.c)
      simp only [List.getElem?_toArray,List.getElem?_cons_zero,List.getElem?_cons_succ] at k0 k1 k2 k3 k4 k5 k6 k7
      go_wp2_with (first | (go_at_call 155;refine (HW.out _).mono ?_;rintro e w' ⟨rfl,rfl⟩) | (go_at_call 157;refine (HCR.out _).mono ?_;rintro e w' ⟨rfl,rfl⟩) | (go_at_call 60;refine (fail_no _ _).mono ?_;rintro e w' ⟨rfl,rfl⟩))
      go_roundg gk
      case rel=>exact ⟨i + 1,_,by go_num,by omega,AI.put HR.out _ _ 5 HGOOD.out rfl⟩
      case measure=>omega
    ·have HBAD:Hid (∀ W,Below wr.heap.size wr W → CalP C0 w (.panicked [{ v:=badV 2201 [],recovered:=false }]) W):=fun W hb=>HR.out.bad (HS.out.trans rfl) hb
     clear HS
     have z0:=blk_cell (HR.out.z) 0
     have z1:=blk_cell (HR.out.z) 1
     have z2:=blk_cell (HR.out.z) 2
     have z3:=blk_cell (HR.out.z) 3
     have z4:=blk_cell (HR.out.z) 4
     have z5:=blk_cell (HR.out.z) 5
     have z6:=blk_cell (HR.out.z) 6
     have z7:=blk_cell (HR.out.z) 7
     have zf0:=blk_free (HR.out.z) 0
     have zf1:=blk_free (HR.out.z) 1
     have zf2:=blk_free (HR.out.z) 2
     have zf3:=blk_free (HR.out.z) 3
     have zf4:=blk_free (HR.out.z) 4
     have zf5:=blk_free (HR.out.z) 5
     have zf6:=blk_free (HR.out.z) 6
     have zf7:=blk_free (HR.out.z) 7
     have zl:=blk_lt (HR.out.z)
     simp only [List.getElem?_toArray,List.getElem?_cons_zero,List.getElem?_cons_succ] at z0 z1 z2 z3 z4 z5 z6 z7
     have k0:=blk_cell (HR.out.c) 0
     have k1:=blk_cell (HR.out.c) 1
     have k2:=blk_cell (HR.out.c) 2
     have k3:=blk_cell (HR.out.c) 3
     have k4:=blk_cell (HR.out.c) 4
     have k5:=blk_cell (HR.out.c) 5
     have k6:=blk_cell (HR.out.c) 6
     have k7:=blk_cell (HR.out.c) 7
     have kf0:=blk_free (HR.out.c) 0
     have kf1:=blk_free (HR.out.c) 1
     have kf2:=blk_free (HR.out.c) 2
     have kf3:=blk_free (HR.out.c) 3
     have kf4:=blk_free (HR.out.c) 4
     have kf5:=blk_free (HR.out.c) 5
     have kf6:=blk_free (HR.out.c) 6
     have kf7:=blk_free (HR.out.c) 7
     have kl:=blk_lt (HR.out.c)
     simp only [List.getElem?_toArray,List.getElem?_cons_zero,List.getElem?_cons_succ] at k0 k1 k2 k3 k4 k5 k6 k7
     go_wp2_with (first | (go_at_call 155;refine (HW.out _).mono ?_;rintro e w' ⟨rfl,rfl⟩) | (go_at_call 157;refine (HCR.out _).mono ?_;rintro e w' ⟨rfl,rfl⟩) | (go_at_call 60;refine (fail_yes _ _).mono ?_;rintro e w' ⟨rfl,rfl⟩;exact ⟨rfl,HBAD.out _ ((Below.refl _ _).alloc (Nat.le_refl _) _)⟩))
   ·have hrn:(s[i]'hls).toNat = 109:=by rw [hr];rfl
    have HCR:=Lib.hid (fun W=>con_any 109 109 false rfl (by decide) rfl (by decide) W)
    have HS:=Lib.hid (hstep 109 hr.symm)
    clear hr
    cases ib
    ·cases hq:isW nb with
     | false =>
      rw [hq] at HW
      have HBAD:Hid (∀ W,Below wr.heap.size wr W → CalP C0 w (.panicked [{ v:=badV 2201 [],recovered:=false }]) W):=fun W hb=>HR.out.bad (HS.out.trans (by simp [isTextArg,hq])) hb
      clear HS
      have z0:=blk_cell (HR.out.z) 0
      have z1:=blk_cell (HR.out.z) 1
      have z2:=blk_cell (HR.out.z) 2
      have z3:=blk_cell (HR.out.z) 3
      have z4:=blk_cell (HR.out.z) 4
      have z5:=blk_cell (HR.out.z) 5
      have z6:=blk_cell (HR.out.z) 6
      have z7:=blk_cell (HR.out.z) 7
      have zf0:=blk_free (HR.out.z) 0
      have zf1:=blk_free (HR.out.z) 1
      have zf2:=blk_free (HR.out.z) 2
      have zf3:=blk_free (HR.out.z) 3
      have zf4:=blk_free (HR.out.z) 4
      have zf5:=blk_free (HR.out.z) 5
      have zf6:=blk_free (HR.out.z) 6
      have zf7:=blk_free (HR.out.z) 7
      have zl:=blk_lt (HR.out.z)
      simp only [List.getElem?_toArray,List.getElem?_cons_zero,List.getElem?_cons_succ] at z0 z1 z2 z3 z4 z5 z6 z7
      have k0:=blk_cell (HR.out.c) 0
      have k1:=blk_cell (HR.out.c) 1
      have k2:=blk_cell (HR.out.c) 2
      have k3:=blk_cell (HR.out.c) 3
      have k4:=blk_cell (HR.out.c) 4
      have k5:=blk_cell (HR.out.c) 5
      have k6:=blk_cell (HR.out.c) 6
      have k7:=blk_cell (HR.out.c) 7
      have kf0:=blk_free (HR.out.c) 0
      have kf1:=blk_free (HR.out.c) 1
      have kf2:=blk_free (HR.out.c) 2
      have kf3:=blk_free (HR.out.c) 3
      have kf4:=blk_free (HR.out.c) 4
      have kf5:=blk_free (HR.out.c) 5
      have kf6:=blk_free (HR.out.c) 6
      have kf7:=blk_free (HR.out.c) 7
      have kl:=blk_lt (HR.out.c)
      simp only [List.getElem?_toArray,List.getElem?_cons_zero,List.getElem?_cons_succ] at k0 k1 k2 k3 k4 k5 k6 k7
      go_wp2_with (first | (go_at_call 155;refine (HW.out _).mono ?_;rintro e w' ⟨rfl,rfl⟩) | (go_at_call 157;refine (HCR.out _).mono ?_;rintro e w' ⟨rfl,rfl⟩) | (go_at_call 60;refine (fail_yes _ _).mono ?_;rintro e w' ⟨rfl,rfl⟩;exact ⟨rfl,HBAD.out _ ((Below.refl _ _).alloc (Nat.le_refl _) _)⟩))
     | true =>
      rw [hq] at HW
      have HGOOD:Hid (C0 = argsM (putArg ci 109 ⟨false,tb,nb⟩) ((L.drop (i + 1)).map (·.1)) (rs.drop (i + 1))):=HR.out.eq.trans (HS.out.trans (by simp [isTextArg,hq]))
      clear HS
      have z0:=blk_cell (HR.out.z) 0
      have z1:=blk_cell (HR.out.z) 1
      have z2:=blk_cell (HR.out.z) 2
      have z3:=blk_cell (HR.out.z) 3
      have z4:=blk_cell (HR.out.z) 4
      have z5:=blk_cell (HR.out.z) 5
      have z6:=blk_cell (HR.out.z) 6
      have z7:=blk_cell (HR.out.z) 7
      have zf0:=blk_free (HR.out.z) 0
      have zf1:=blk_free (HR.out.z) 1
      have zf2:=blk_free (HR.out.z) 2
      have zf3:=blk_free (HR.out.z) 3
      have zf4:=blk_free (HR.out.z) 4
      have zf5:=blk_free (HR.out.z) 5
      have zf6:=blk_free (HR.out.z) 6
      have zf7:=blk_free (HR.out.z) 7
      have zl:=blk_lt (HR.out.z)
      simp only [List.getElem?_toArray,List.getElem?_cons_zero,List.getElem?_cons_succ] at z0 z1 z2 z3 z4 z5 z6 z7
      have k0:=blk_cell (HR.out.c) 0
      have k1:=blk_cell (HR.out.c) 1
      have k2:=blk_cell (HR.out.c) 2
      have k3:=blk_cell (HR.out.c) 3
      have k4:=blk_cell (HR.out.c) 4
      have k5:=blk_cell (HR.out.c) 5
      have k6:=blk_cell (HR.out.c) 6
      have k7:=blk_cell (HR.out.c) 7
      have kf0:=blk_free (HR.out.c) 0
      have kf1:=blk_free (HR.out.c) 1
      have kf2:=blk_free (HR.out.c) 2
      have kf3:=blk_free (HR.out.c) 3
      have kf4:=blk_free (HR.out.c) 4
      have kf5:=blk_free (HR.out.c) 5
      have kf6:=blk_free (HR.out.c) 6
      have kf7:=blk_free (HR.out.c) 7
      have kl:=blk_lt (HR.out.c)
      simp only [List.getElem?_toArray,List.getElem?_cons_zero,List.getElem?_cons_succ] at k0 k1 k2 k3 k4 k5 k6 k7
      go_wp2_with (first | (go_at_call 155;refine (HW.out _).mono ?_;rintro e w' ⟨rfl,rfl⟩) | (go_at_call 157;refine (HCR.out _).mono ?_;rintro e w' ⟨rfl,rfl⟩) | (go_at_call 60;refine (fail_no _ _).mono ?_;rintro e w' ⟨rfl,rfl⟩))
      go_roundg gk
      case rel=>exact ⟨i + 1,_,by go_num,by omega,AI.put HR.out _ _ 6 HGOOD.out rfl⟩
      case measure=>omega
    ·have HBAD:Hid (∀ W,Below wr.heap.size wr W → CalP C0 w (.panicked [{ v:=badV 2201 [],recovered:=false }]) W):=fun W hb=>HR.out.bad (HS.out.trans rfl) hb
     clear HS
     have z0:=blk_cell (HR.out.z) 0
     have z1:=blk_cell (HR.out.z) 1
     have z2:=blk_cell (HR.out.z) 2
     have z3:=blk_cell (HR.out.z) 3
     have z4:=blk_cell (HR.out.z) 4
     have z5:=blk_cell (HR.out.z) 5
     have z6:=blk_cell (HR.out.z) 6
     have z7:=blk_cell (HR.out.z) 7
     have zf0:=blk_free (HR.out.z) 0
     have zf1:=blk_free (HR.out.z) 1
     have zf2:=blk_free (HR.out.z) 2
     have zf3:=blk_free (HR.out.z) 3
     have zf4:=blk_free (HR.out.z) 4
     have zf5:=blk_free (HR.out.z) 5
     have zf6:=blk_free (HR.out.z) 6
     have zf7:=blk_free (HR.out.z) 7
     have zl:=blk_lt (HR.out.z)
     simp only [List.getElem?_toArray,List.getElem?_cons_zero,List.getElem?_cons_succ] at z0 z1 z2 z3 z4 z5 z6 z7
     have k0:=blk_cell (HR.out.c) 0
     have k1:=blk_cell (HR.out.c) 1
     have k2:=blk_cell (HR.out.c) 2
     have k3:=blk_cell (HR.out.c) 3
     have k4:=blk_cell (HR.out.c) 4
     have k5:=blk_cell (HR.out.c) 5
     have k6:=blk_cell (HR.out.c) 6
     have k7:=blk_cell (HR.out.c) 7
     have kf0:=blk_free (HR.out.c) 0
     have kf1:=blk_free (HR.out.c) 1
     have kf2:=blk_free (HR.out.c) 2
     have kf3:=blk_free (HR.out.c) 3
     have kf4:=blk_free (HR.out.c) 4
     have kf5:=blk_free (HR.out.c) 5
     have kf6:=blk_free (HR.out.c) 6
     have kf7:=blk_free (HR.out.c) 7
     have kl:=blk_lt (HR.out.c)
     simp only [List.getElem?_toArray,List.getElem?_cons_zero,List.getElem?_cons_succ] at k0 k1 k2 k3 k4 k5 k6 k7
     go_wp2_with (first | (go_at_call 155;refine (HW.out _).mono ?_;rintro e w' ⟨rfl,rfl⟩) | (go_at_call 157;refine (HCR.out _).mono ?_;rintro e w' ⟨rfl,rfl⟩) | (go_at_call 60;refine (fail_yes _ _).mono ?_;rintro e w' ⟨rfl,rfl⟩;exact ⟨rfl,HBAD.out _ ((Below.refl _ _).alloc (Nat.le_refl _) _)⟩))
   ·have hrn:(s[i]'hls).toNat = 102:=by rw [hr];rfl
    have HCR:=Lib.hid (fun W=>con_any 102 102 false rfl (by decide) rfl (by decide) W)
    have HS:=Lib.hid (hstep 102 hr.symm)
    clear hr
    cases ib
    ·cases hq:isW nb with
     | false =>
      rw [hq] at HW
      have HBAD:Hid (∀ W,Below wr.heap.size wr W → CalP C0 w (.panicked [{ v:=badV 2201 [],recovered:=false }]) W):=fun W hb=>HR.out.bad (HS.out.trans (by simp [isTextArg,hq])) hb
      clear HS
      have z0:=blk_cell (HR.out.z) 0
      have z1:=blk_cell (HR.out.z) 1
      have z2:=blk_cell (HR.out.z) 2
      have z3:=blk_cell (HR.out.z) 3
      have z4:=blk_cell (HR.out.z) 4
      have z5:=blk_cell (HR.out.z) 5
      have z6:=blk_cell (HR.out.z) 6
      have z7:=blk_cell (HR.out.z) 7
      have zf0:=blk_free (HR.out.z) 0
      have zf1:=blk_free (HR.out.z) 1
      have zf2:=blk_free (HR.out.z) 2
      have zf3:=blk_free (HR.out.z) 3
      have zf4:=blk_free (HR.out.z) 4
      have zf5:=blk_free (HR.out.z) 5
      have zf6:=blk_free (HR.out.z) 6
      have zf7:=blk_free (HR.out.z) 7
      have zl:=blk_lt (HR.out.z)
      simp only [List.getElem?_toArray,List.getElem?_cons_zero,List.getElem?_cons_succ] at z0 z1 z2 z3 z4 z5 z6 z7
      have k0:=blk_cell (HR.out.c) 0
      have k1:=blk_cell (HR.out.c) 1
      have k2:=blk_cell (HR.out.c) 2
      have k3:=blk_cell (HR.out.c) 3
      have k4:=blk_cell (HR.out.c) 4
      have k5:=blk_cell (HR.out.c) 5
      have k6:=blk_cell (HR.out.c) 6
      have k7:=blk_cell (HR.out.c) 7
      have kf0:=blk_free (HR.out.c) 0
      have kf1:=blk_free (HR.out.c) 1
      have kf2:=blk_free (HR.out.c) 2
      have kf3:=blk_free (HR.out.c) 3
      have kf4:=blk_free (HR.out.c) 4
      have kf5:=blk_free (HR.out.c) 5
      have kf6:=blk_free (HR.out.c) 6
      have kf7:=blk_free (HR.out.c) 7
      have kl:=blk_lt (HR.out.c)
      simp only [List.getElem?_toArray,List.getElem?_cons_zero,List.getElem?_cons_succ] at k0 k1 k2 k3 k4 k5 k6 k7
      go_wp2_with (first | (go_at_call 155;refine (HW.out _).mono ?_;rintro e w' ⟨rfl,rfl⟩) | (go_at_call 157;refine (HCR.out _).mono ?_;rintro e w' ⟨rfl,rfl⟩) | (go_at_call 60;refine (fail_yes _ _).mono ?_;rintro e w' ⟨rfl,rfl⟩;exact ⟨rfl,HBAD.out _ ((Below.refl _ _).alloc (Nat.le_refl _) _)⟩))
     | true =>
      rw [hq] at HW
      have HGOOD:Hid (C0 = argsM (putArg ci 102 ⟨false,tb,nb⟩) ((L.drop (i + 1)).map (·.1)) (rs.drop (i + 1))):=HR.out.eq.trans (HS.out.trans (by simp [isTextArg,hq]))
      clear HS
      have z0:=blk_cell (HR.out.z) 0
      have z1:=blk_cell (HR.out.z) 1
      have z2:=blk_cell (HR.out.z) 2
      have z3:=blk_cell (HR.out.z) 3
      have z4:=blk_cell (HR.out.z) 4
      have z5:=blk_cell (HR.out.z) 5
      have z6:=blk_cell (HR.out.z) 6
      have z7:=blk_cell (HR.out.z) 7
      have zf0:=blk_free (HR.out.z) 0
      have zf1:=blk_free (HR.out.z) 1
      have zf2:=blk_free (HR.out.z) 2
      have zf3:=blk_free (HR.out.z) 3
      have zf4:=blk_free (HR.out.z) 4
      have zf5:=blk_free (HR.out.z) 5
      have zf6:=blk_free (HR.out.z) 6
      have zf7:=blk_free (HR.out.z) 7
      have zl:=blk_lt (HR.out.z)
      simp only [List.getElem?_toArray,List.getElem?_cons_zero,List.getElem?_cons_succ] at z0 z1 z2 z3 z4 z5 z6 z7
      have k0:=blk_cell (HR.out.c) 0
      have k1:=blk_cell (HR.out.c) 1
      have k2:=blk_cell (HR.out.c) 2
      have k3:=blk_cell (HR.out.c) 3
      have k4:=blk_cell (HR.out.c) 4
      have k5:=blk_cell (HR.out.c) 5
      have k6:=blk_cell (HR.out.c) 6
      have k7:=blk_cell (HR.out.c) 7
      have kf0:=blk_free (HR.out.c) 0
      have kf1:=blk_free (HR.out.c) 1
      have kf2:=blk_free (HR.out.c) 2
      have kf3:=blk_free (HR.out.c) 3
      have kf4:=blk_free (HR.out.c) 4
      have kf5:=blk_free (HR.out.c) 5
      have kf6:=blk_free (HR.out.c) 6
      have kf7:=blk_free (HR.out.c) 7
      have kl:=blk_lt (HR.out.c)
      simp only [List.getElem?_toArray,List.getElem?_cons_zero,List.getElem?_cons_succ] at k0 k1 k2 k3 k4 k5 k6 k7
      go_wp2_with (first | (go_at_call 155;refine (HW.out _).mono ?_;rintro e w' ⟨rfl,rfl⟩) | (go_at_call 157;refine (HCR.out _).mono ?_;rintro e w' ⟨rfl,rfl⟩) | (go_at_call 60;refine (fail_no _ _).mono ?_;rintro e w' ⟨rfl,rfl⟩))
      go_roundg gk
      case rel=>exact ⟨i + 1,_,by go_num,by omega,AI.put HR.out _ _ 3 HGOOD.out rfl⟩
      case measure=>omega
    ·have HBAD:Hid (∀ W,Below wr.heap.size wr W → CalP C0 w (.panicked [{ v:=badV 2201 [],recovered:=false }]) W):=fun W hb=>HR.out.bad (HS.out.trans rfl) hb
     clear HS
     have z0:=blk_cell (HR.out.z) 0
     have z1:=blk_cell (HR.out.z) 1
     have z2:=blk_cell (HR.out.z) 2
     have z3:=blk_cell (HR.out.z) 3
     have z4:=blk_cell (HR.out.z) 4
     have z5:=blk_cell (HR.out.z) 5
     have z6:=blk_cell (HR.out.z) 6
     have z7:=blk_cell (HR.out.z) 7
     have zf0:=blk_free (HR.out.z) 0
     have zf1:=blk_free (HR.out.z) 1
     have zf2:=blk_free (HR.out.z) 2
     have zf3:=blk_free (HR.out.z) 3
     have zf4:=blk_free (HR.out.z) 4
     have zf5:=blk_free (HR.out.z) 5
     have zf6:=blk_free (HR.out.z) 6
     have zf7:=blk_free (HR.out.z) 7
     have zl:=blk_lt (HR.out.z)
     simp only [List.getElem?_toArray,List.getElem?_cons_zero,List.getElem?_cons_succ] at z0 z1 z2 z3 z4 z5 z6 z7
     have k0:=blk_cell (HR.out.c) 0
     have k1:=blk_cell (HR.out.c) 1
     have k2:=blk_cell (HR.out.c) 2
     have k3:=blk_cell (HR.out.c) 3
     have k4:=blk_cell (HR.out.c) 4
     have k5:=blk_cell (HR.out.c) 5
     have k6:=blk_cell (HR.out.c) 6
     have k7:=blk_cell (HR.out.c) 7
     have kf0:=blk_free (HR.out.c) 0
     have kf1:=blk_free (HR.out.c) 1
     have kf2:=blk_free (HR.out.c) 2
     have kf3:=blk_free (HR.out.c) 3
     have kf4:=blk_free (HR.out.c) 4
     have kf5:=blk_free (HR.out.c) 5
     have kf6:=blk_free (HR.out.c) 6
     have kf7:=blk_free (HR.out.c) 7
     have kl:=blk_lt (HR.out.c)
     simp only [List.getElem?_toArray,List.getElem?_cons_zero,List.getElem?_cons_succ] at k0 k1 k2 k3 k4 k5 k6 k7
     go_wp2_with (first | (go_at_call 155;refine (HW.out _).mono ?_;rintro e w' ⟨rfl,rfl⟩) | (go_at_call 157;refine (HCR.out _).mono ?_;rintro e w' ⟨rfl,rfl⟩) | (go_at_call 60;refine (fail_yes _ _).mono ?_;rintro e w' ⟨rfl,rfl⟩;exact ⟨rfl,HBAD.out _ ((Below.refl _ _).alloc (Nat.le_refl _) _)⟩))
  ·have hik2:i = L.length:=by omega
   have HE:Hid (C0 = .ok ci):=by
    have:=HR.out.eq
    rw [hik2,List.drop_length] at this
    exact this
   subst hik2
   have z0:=blk_cell (HR.out.z) 0
   have z1:=blk_cell (HR.out.z) 1
   have z2:=blk_cell (HR.out.z) 2
   have z3:=blk_cell (HR.out.z) 3
   have z4:=blk_cell (HR.out.z) 4
   have z5:=blk_cell (HR.out.z) 5
   have z6:=blk_cell (HR.out.z) 6
   have z7:=blk_cell (HR.out.z) 7
   have zf0:=blk_free (HR.out.z) 0
   have zf1:=blk_free (HR.out.z) 1
   have zf2:=blk_free (HR.out.z) 2
   have zf3:=blk_free (HR.out.z) 3
   have zf4:=blk_free (HR.out.z) 4
   have zf5:=blk_free (HR.out.z) 5
   have zf6:=blk_free (HR.out.z) 6
   have zf7:=blk_free (HR.out.z) 7
   have zl:=blk_lt (HR.out.z)
   simp only [List.getElem?_toArray,List.getElem?_cons_zero,List.getElem?_cons_succ] at z0 z1 z2 z3 z4 z5 z6 z7
   have k0:=blk_cell (HR.out.c) 0
   have k1:=blk_cell (HR.out.c) 1
   have k2:=blk_cell (HR.out.c) 2
   have k3:=blk_cell (HR.out.c) 3
   have k4:=blk_cell (HR.out.c) 4
   have k5:=blk_cell (HR.out.c) 5
   have k6:=blk_cell (HR.out.c) 6
   have k7:=blk_cell (HR.out.c) 7
   have kf0:=blk_free (HR.out.c) 0
   have kf1:=blk_free (HR.out.c) 1
   have kf2:=blk_free (HR.out.c) 2
   have kf3:=blk_free (HR.out.c) 3
   have kf4:=blk_free (HR.out.c) 4
   have kf5:=blk_free (HR.out.c) 5
   have kf6:=blk_free (HR.out.c) 6
   have kf7:=blk_free (HR.out.c) 7
   have kl:=blk_lt (HR.out.c)
   simp only [List.getElem?_toArray,List.getElem?_cons_zero,List.getElem?_cons_succ] at k0 k1 k2 k3 k4 k5 k6 k7
   go_wp2_with fail
   have h8:((((((((wr.setCell ⟨w.heap.size,0,none⟩ (.int .i64 ci.op)).setCell ⟨w.heap.size,1,none⟩ (.string ⟨ci.path.toArray⟩)).setCell ⟨w.heap.size,2,none⟩ (.string ⟨ci.path2.toArray⟩)).setCell ⟨w.heap.size,3,none⟩ (.int .i64 ci.fd)).setCell ⟨w.heap.size,4,none⟩ (.int .i64 ci.off)).setCell ⟨w.heap.size,5,none⟩ (.int .i64 ci.num)).setCell ⟨w.heap.size,6,none⟩ (.int .i64 ci.mode)).setCell ⟨w.heap.size,7,none⟩ (.string ⟨ci.data.toArray⟩)).heap[w.heap.size]? = some (cO ci):=(blk_set (blk_set (blk_set (blk_set (blk_set (blk_set (blk_set (blk_set HR.out.z 0 _) 1 _) 2 _) 3 _) 4 _) 5 _) 6 _) 7 _)
   have hb8:Below w.heap.size w ((((((((wr.setCell ⟨w.heap.size,0,none⟩ (.int .i64 ci.op)).setCell ⟨w.heap.size,1,none⟩ (.string ⟨ci.path.toArray⟩)).setCell ⟨w.heap.size,2,none⟩ (.string ⟨ci.path2.toArray⟩)).setCell ⟨w.heap.size,3,none⟩ (.int .i64 ci.fd)).setCell ⟨w.heap.size,4,none⟩ (.int .i64 ci.off)).setCell ⟨w.heap.size,5,none⟩ (.int .i64 ci.num)).setCell ⟨w.heap.size,6,none⟩ (.int .i64 ci.mode)).setCell ⟨w.heap.size,7,none⟩ (.string ⟨ci.data.toArray⟩)):=((((((((HR.out.bel.setCell (by simp) _).setCell (by simp) _).setCell (by simp) _).setCell (by simp) _).setCell (by simp) _).setCell (by simp) _).setCell (by simp) _).setCell (by simp) _)
   generalize ((((((((wr.setCell ⟨w.heap.size,0,none⟩ (.int .i64 ci.op)).setCell ⟨w.heap.size,1,none⟩ (.string ⟨ci.path.toArray⟩)).setCell ⟨w.heap.size,2,none⟩ (.string ⟨ci.path2.toArray⟩)).setCell ⟨w.heap.size,3,none⟩ (.int .i64 ci.fd)).setCell ⟨w.heap.size,4,none⟩ (.int .i64 ci.off)).setCell ⟨w.heap.size,5,none⟩ (.int .i64 ci.num)).setCell ⟨w.heap.size,6,none⟩ (.int .i64 ci.mode)).setCell ⟨w.heap.size,7,none⟩ (.string ⟨ci.data.toArray⟩)) = w8 at *
   clear z0 z1 z2 z3 z4 z5 z6 z7
   have y0:=blk_cell (h8) 0
   have y1:=blk_cell (h8) 1
   have y2:=blk_cell (h8) 2
   have y3:=blk_cell (h8) 3
   have y4:=blk_cell (h8) 4
   have y5:=blk_cell (h8) 5
   have y6:=blk_cell (h8) 6
   have y7:=blk_cell (h8) 7
   have yf0:=blk_free (h8) 0
   have yf1:=blk_free (h8) 1
   have yf2:=blk_free (h8) 2
   have yf3:=blk_free (h8) 3
   have yf4:=blk_free (h8) 4
   have yf5:=blk_free (h8) 5
   have yf6:=blk_free (h8) 6
   have yf7:=blk_free (h8) 7
   have yl:=blk_lt (h8)
   simp only [List.getElem?_toArray,List.getElem?_cons_zero,List.getElem?_cons_succ] at y0 y1 y2 y3 y4 y5 y6 y7
   rw [HE.out]
   exact bodyPost_ret (v:=cA ci) (by simp [results,Tryz.results119,go_sem,y0,y1,y2,y3,y4,y5,y6,y7]) rfl ⟨hb8,rfl⟩
end Go.Proofs.YtmfpmandkhiknaaGreatDoor.vmm
namespace Go.Proofs.YtmfpmandkhiknaaGreatDoor.vmm
open Go Go.RowKit Ieee
open flt heap
open lex (add0)
set_option maxRecDepth 100000
def VRow (w:World) (base:Nat) (v:Value) (L:Vs):Prop:=w.ownsRow base 47 3 v L.length (vCs L)
theorem VRow.kept {w w':World} {base:Nat} {v:Value} {L:Vs} (h:VRow w base v L) (hk:∀ g o,v.ownBlock = some g → w.heap[g]? = some o → w'.heap[g]? = some o):VRow w' base v L:=by
 obtain ⟨hl,h1 | ⟨g,c,cur,rfl,h2,h3,h4⟩⟩:=h
 ·exact ⟨hl,.inl h1⟩
 ·exact ⟨hl,.inr ⟨g,c,cur,rfl,h2,hk g _ rfl h3,h4⟩⟩
theorem VRow.below {w w':World} {base:Nat} {v:Value} {L:Vs} (h:VRow w base v L) (hb:Below w.heap.size w w'):VRow w' base v L:=h.kept (fun g o hg ho=>blk_below ho hb)
theorem VRow.slice {w:World} {base:Nat} {v:Value} {L:Vs} (h:VRow w base v L):∃ a c,v = .slice a L.length c:=by
 obtain ⟨_,⟨h,h0⟩ | ⟨_,_,_,h,_⟩⟩:=h
 ·exact ⟨none,0,by rw [h,h0]⟩
 ·exact ⟨_,_,h⟩
theorem VRow.nil (w:World) (base:Nat):VRow w base (.slice none 0 0) []:=World.ownsRow_nil _ _ _ _
theorem VRow.own_lt {w:World} {base:Nat} {v:Value} {L:Vs} (h:VRow w base v L):∀ g ∈ v.ownBlock.toList,base ≤ g ∧ g < w.heap.size:=by
 intro g hg
 have:=World.ownsRow.lt h g (by simpa using hg)
 exact this
theorem VRow.cells {w:World} {base:Nat} {v:Value} {L:Vs} (h:VRow w base v L):(v = .slice none 0 0 ∧ L = []) ∨ ∃ g c,v = .slice (some ⟨g,0,none⟩) L.length c ∧ g < w.heap.size ∧ base ≤ g ∧ L.length ≤ c ∧ c ≤ maxLen ∧
  ∀ j u,(vCs L)[j]? = some u → w.cell? ⟨g,j,none⟩ = some u:=by
 have hlt:=World.ownsRow.lt h
 have hcl := @World.ownsRow.cells _ _ _ _ _ _ _ h
 obtain ⟨hl,⟨h1,h2⟩ | ⟨g,c,cur,hv,h2,h3,h4,h5,h6,h7⟩⟩:=h
 ·exact .inl ⟨h1,List.length_eq_zero_iff.1 h2⟩
 ·refine .inr ⟨g,c,hv,(hlt g (by rw [hv];rfl)).2,h2,h4,h5,fun j u hu => ?_⟩
  have k0:=hcl (g:=g) (by rw [hv];rfl) _ _ hu
  rw [add0] at k0
  exact k0
theorem VRow.vv {w:World} {base:Nat} {v:Value} {L:Vs} (h:VRow w base v L):VV w v L:=by
 rcases h.cells with ⟨rfl,rfl⟩ | ⟨g,c,rfl,hg,-,hlc,hcm,hc⟩
 ·exact ⟨none,0,rfl,Nat.le_refl _,Nat.zero_le _,fun j x hj=>by simp at hj⟩
 ·refine ⟨_,_,rfl,hlc,hcm,fun j x hj => ?_⟩
  obtain ⟨e0,e1,e2⟩:=vCs_get L j x hj
  refine ⟨g,0,rfl,?_,?_,?_⟩ <;> rw [Nat.zero_add]
  ·exact hc _ _ e0
  ·exact hc _ _ e1
  ·exact hc _ _ e2
theorem infoV:(Tryz.prog.info? 47).map (fun i=>(i.zero,i.size,i.bytes)) = some (some (.agg #[.bool false,.string ⟨#[]⟩,.float .f64 0]),3,32):=by kernel_rfl
theorem vC_one (L:Vs):∀ u ∈ vCs L,u.oneCell' = true:=by
 intro u hu
 obtain ⟨x,-,hx⟩:=List.mem_flatMap.1 hu
 simp [vC] at hx
 rcases hx with rfl | rfl | rfl <;> rfl
theorem vCs_app (L M:Vs):vCs (L ++ M) = vCs L ++ vCs M:=by simp [vCs]
theorem app_vals (B:Nat) (v:Value) (L M:Vs) (a:Addr) (c:Nat) (w:World) (h:VRow w B v L) (hg:∀ j u,(vCs M)[j]? = some u → w.cell? (a.add j) = some u) (hB:B ≤ w.heap.size) (hn:L.length ≤ 100000) (hm:M.length ≤ 100000) :
  ∃ v2 w2,(Builtin.append_ #[43,43] 43 #[v,.slice (some a) M.length c]).run Tryz.prog w = .ok v2 w2 ∧ VRow w2 B v2 (L ++ M) ∧ Turned v.ownBlock.toList w w2:=by
 obtain ⟨i0,hi,hz0,hz1,hz2⟩:=info_parts infoV
 obtain ⟨v2,w2,hrun,hown,hgr,_⟩:=run_append_own (P:=Tryz.prog) w B 43 43 47 i0 _ 3 32 Tryz.underlying43 hi hz0 hz1 hz2 rfl (by decide) v L.length _ h a M.length c (vCs M) (vCs_len M) hg (vC_one M) (by unfold maxLen;omega) (by omega) hB
 refine ⟨v2,w2,hrun,?_,⟨hgr.os,hgr.tape,hgr.output,hgr.size,fun b hb hn=>hgr.block b hb (fun e=>hn (by simp [← e]))⟩⟩
 unfold VRow
 rw [List.length_append,vCs_app]
 exact hown
theorem clone_any (L:Vs) (g off c:Nat) (w:World) (hg:∀ j u,(vCs L)[j]? = some u → w.cell? ⟨g,off + j,none⟩ = some u) (h0:L ≠ []) (hn:L.length ≤ 100000) :
  Calls Tryz.prog 42 #[.slice (some ⟨g,off,none⟩) L.length c] w fun e w'=>∃ v,e = .returned v ∧ VRow w' w.heap.size v L ∧ Below w.heap.size w w':=by
 have hb0:Below w.heap.size w (w.alloc (.cells #[] 47 (0,0))):=(Below.refl _ _).alloc (Nat.le_refl _) _
 have hgl:g < w.heap.size:=by
  cases L with
  | nil=>exact absurd rfl h0
  | cons x L =>
   exact World.block_lt_of_cell? w ⟨g,off + 0,none⟩ (hg 0 _ rfl)
 have hrow:VRow (w.alloc (.cells #[] 47 (0,0))) w.heap.size (.slice (some ⟨w.heap.size,0,none⟩) 0 0) []:=⟨rfl,.inr ⟨w.heap.size,0,#[],rfl,Nat.le_refl _,blk_new w _,Nat.le_refl _,Nat.zero_le _,rfl,rfl⟩⟩
 obtain ⟨v2,w2,hrun,hr2,ht⟩:=app_vals w.heap.size _ [] L ⟨g,off,none⟩ c _ hrow (fun j u hu=>by
  have e:(⟨g,off,none⟩:Addr).add j = ⟨g,off + j,none⟩:=by unfold Addr.add;split <;> simp_all
  rw [e,hb0.cell (p:=⟨g,off + j,none⟩) hgl]
  exact hg j u hu) (by simp) (by simp) hn
 have HR:=Lib.hid hrun
 have HB:Hid (Below w.heap.size w w2):=hb0.trans ⟨ht.os,ht.tape,ht.output,ht.size,fun k hk=>ht.block k (Nat.lt_of_lt_of_le hk hb0.size) (by simp [Value.ownBlock];omega)⟩
 have H2:=Lib.hid hr2
 have hq:∀ W:World,(binOp .eql 43 (.slice (some ⟨g,off,none⟩) L.length c) (.slice none 0 0)).run Tryz.prog W = .ok (.bool false) W:=fun W=>by
  unfold binOp
  simp [run_equal_slice_nil W 43 47 _ _ _ Tryz.underlying43]
 clear hrun ht hr2 hrow hb0 hg
 go_enter Tryz.func42,Tryz.ntmps42
 go_wp2_with (at_builtin;refine reg.wpList_append rfl rfl rfl rfl rfl HR.out ?_)
 go_ret
 exact ⟨_,rfl,H2.out,HB.out⟩
end Go.Proofs.YtmfpmandkhiknaaGreatDoor.vmm
namespace Go.Proofs.YtmfpmandkhiknaaGreatDoor.vmm
open Go Go.RowKit Ieee
open flt heap
open lex (run_store_float)
set_option maxRecDepth 100000
attribute [local go_sem] run_store_float
structure BP (w:World) (a:Val) (ra:Nat) (wr:World):Prop where
 x:wr.heap[w.heap.size]? = some (vO a.isT a.text ra)
 z:wr.heap[w.heap.size + 1]? = some (vO false [] 0)
 bel:Below w.heap.size w wr
theorem BP.start (w:World) (a:Val) (ra:Nat):BP w a ra ((w.alloc (vO a.isT a.text ra)).alloc (vO false [] 0)):=by
 have h1:=blk_new w (vO a.isT a.text ra)
 have h2:=blk_new (w.alloc (vO a.isT a.text ra)) (vO false [] 0)
 rw [show (w.alloc (vO a.isT a.text ra)).heap.size = w.heap.size + 1 by simp] at h2
 exact ⟨blk_old h1 _,h2,((Below.refl _ _).alloc (Nat.le_refl _) _).alloc (by simp) _⟩
theorem BP.below {w wr w':World} {a:Val} {ra:Nat} (h:BP w a ra wr) (hb:Below wr.heap.size wr w'):BP w a ra w':=⟨blk_below h.x hb,blk_below h.z hb,h.bel.trans (hb.mono h.bel.size)⟩
set_option maxHeartbeats 4000000 in
theorem pure_text (ix:Bool) (tx:List UInt8) (nx ra:Nat) (w:World) (ha:NumOk ⟨ix,tx,nx⟩ ra) :
  Calls Tryz.prog 118 #[.string ⟨#[116,101,120,116]⟩,vV ix tx ra] w (ValP (.ok (textV (shown ⟨ix,tx,nx⟩))) w):=by
 have HS:Hid (∀ W,Calls Tryz.prog 91 #[vV ix tx ra] W fun e w'=>e = .returned (.string ⟨(shown ⟨ix,tx,nx⟩).toArray⟩) ∧ Below W.heap.size W w'):=fun W=>shown_any ⟨ix,tx,nx⟩ ra W ha
 generalize shown ⟨ix,tx,nx⟩ = ta at *
 clear ha
 go_enter Tryz.func118,Tryz.ntmps118
 go_upto_region 1 with fail
 have HJ:=Lib.hid (BP.start w ⟨ix,tx,nx⟩ ra)
 change Code.wp _ _ _ _ ((w.alloc (vO ix tx ra)).alloc (vO false [] 0))
 generalize (w.alloc (vO ix tx ra)).alloc (vO false [] 0) = wr at *
 have x0:=blk_cell (HJ.out.x) 0
 have x1:=blk_cell (HJ.out.x) 1
 have x2:=blk_cell (HJ.out.x) 2
 have xf0:=blk_free (HJ.out.x) 0
 have xf1:=blk_free (HJ.out.x) 1
 have xf2:=blk_free (HJ.out.x) 2
 have xl:=blk_lt (HJ.out.x)
 simp only [List.getElem?_toArray,List.getElem?_cons_zero,List.getElem?_cons_succ] at x0 x1 x2
 have y0:=blk_cell (HJ.out.z) 0
 have y1:=blk_cell (HJ.out.z) 1
 have y2:=blk_cell (HJ.out.z) 2
 have yf0:=blk_free (HJ.out.z) 0
 have yf1:=blk_free (HJ.out.z) 1
 have yf2:=blk_free (HJ.out.z) 2
 have yl:=blk_lt (HJ.out.z)
 simp only [List.getElem?_toArray,List.getElem?_cons_zero,List.getElem?_cons_succ] at y0 y1 y2
 go_wp2_with (go_at_call 91;refine (HS.out _).mono ?_;rintro e w6 ⟨rfl,hb6⟩;have HJ6:=Lib.hid (HJ.out.below hb6);clear hb6;obtain ⟨zz0,zz1,zz2,zzf0,zzf1,zzf2,zzl⟩:=c3_of HJ6.out.z)
 have h3:((((w6).setCell ⟨w.heap.size + 1,0,none⟩ (.bool true)).setCell ⟨w.heap.size + 1,1,none⟩ (.string ⟨ta.toArray⟩)).setCell ⟨w.heap.size + 1,2,none⟩ (.float .f64 0)).heap[w.heap.size + 1]? = some (.cells #[.bool true,.string ⟨ta.toArray⟩,.float .f64 0] 47 (0,0)):=blk_set (blk_set (blk_set HJ6.out.z 0 _) 1 _) 2 _
 have hb3:Below w.heap.size w ((((w6).setCell ⟨w.heap.size + 1,0,none⟩ (.bool true)).setCell ⟨w.heap.size + 1,1,none⟩ (.string ⟨ta.toArray⟩)).setCell ⟨w.heap.size + 1,2,none⟩ (.float .f64 0)):=((HJ6.out.bel.setCell (by simp <;> omega) _).setCell (by simp <;> omega) _).setCell (by simp <;> omega) _
 generalize ((((w6).setCell _ _).setCell _ _).setCell _ _) = w3 at h3 hb3 ⊢
 have z0:=blk_cell (h3) 0
 have z1:=blk_cell (h3) 1
 have z2:=blk_cell (h3) 2
 have zf0:=blk_free (h3) 0
 have zf1:=blk_free (h3) 1
 have zf2:=blk_free (h3) 2
 have zl:=blk_lt (h3)
 simp only [List.getElem?_toArray,List.getElem?_cons_zero,List.getElem?_cons_succ] at z0 z1 z2
 refine bodyPost_ret (v:=.agg #[.bool true,.string ⟨ta.toArray⟩,.float .f64 0]) (by simp [results,Tryz.results118,go_sem,z0,z1,z2]) rfl ?_
 exact ValP.ok (c:=textV ta) hb3 num0
set_option maxHeartbeats 4000000 in
theorem pure_len_no (tx:List UInt8) (nx ra:Nat) (w:World) :
  Calls Tryz.prog 118 #[.string ⟨#[108,101,110]⟩,vV false tx ra] w (ValP (.error (2201,[])) w):=by
 go_enter Tryz.func118,Tryz.ntmps118
 go_upto_region 1 with fail
 have HJ:=Lib.hid (BP.start w ⟨false,tx,nx⟩ ra)
 change Code.wp _ _ _ _ ((w.alloc (vO false tx ra)).alloc (vO false [] 0))
 generalize (w.alloc (vO false tx ra)).alloc (vO false [] 0) = wr at *
 have x0:=blk_cell (HJ.out.x) 0
 have x1:=blk_cell (HJ.out.x) 1
 have x2:=blk_cell (HJ.out.x) 2
 have xf0:=blk_free (HJ.out.x) 0
 have xf1:=blk_free (HJ.out.x) 1
 have xf2:=blk_free (HJ.out.x) 2
 have xl:=blk_lt (HJ.out.x)
 simp only [List.getElem?_toArray,List.getElem?_cons_zero,List.getElem?_cons_succ] at x0 x1 x2
 have y0:=blk_cell (HJ.out.z) 0
 have y1:=blk_cell (HJ.out.z) 1
 have y2:=blk_cell (HJ.out.z) 2
 have yf0:=blk_free (HJ.out.z) 0
 have yf1:=blk_free (HJ.out.z) 1
 have yf2:=blk_free (HJ.out.z) 2
 have yl:=blk_lt (HJ.out.z)
 simp only [List.getElem?_toArray,List.getElem?_cons_zero,List.getElem?_cons_succ] at y0 y1 y2
 go_wp2_with (go_at_call 60;refine (fail_yes _ _).mono ?_;rintro e w' ⟨rfl,rfl⟩;exact ⟨rfl,ValP.err HJ.out.bel⟩)
set_option maxHeartbeats 4000000 in
theorem pure_len (tx:List UInt8) (nx ra:Nat) (w:World) (hl:tx.length ≤ 1000000) (HF:NumOk (numV (floatOfInt .f64 tx.length)) (floatOfInt .f64 tx.length)) :
  Calls Tryz.prog 118 #[.string ⟨#[108,101,110]⟩,vV true tx ra] w (ValP (.ok (numV (floatOfInt .f64 tx.length))) w):=by
 have HNQ:=Lib.hid HF
 clear HF
 have HNB:=Lib.hid (fun W=>number_any (floatOfInt .f64 tx.length) W)
 go_enter Tryz.func118,Tryz.ntmps118
 go_upto_region 1 with fail
 have HJ:=Lib.hid (BP.start w ⟨true,tx,nx⟩ ra)
 change Code.wp _ _ _ _ ((w.alloc (vO true tx ra)).alloc (vO false [] 0))
 generalize (w.alloc (vO true tx ra)).alloc (vO false [] 0) = wr at *
 have x0:=blk_cell (HJ.out.x) 0
 have x1:=blk_cell (HJ.out.x) 1
 have x2:=blk_cell (HJ.out.x) 2
 have xf0:=blk_free (HJ.out.x) 0
 have xf1:=blk_free (HJ.out.x) 1
 have xf2:=blk_free (HJ.out.x) 2
 have xl:=blk_lt (HJ.out.x)
 simp only [List.getElem?_toArray,List.getElem?_cons_zero,List.getElem?_cons_succ] at x0 x1 x2
 have y0:=blk_cell (HJ.out.z) 0
 have y1:=blk_cell (HJ.out.z) 1
 have y2:=blk_cell (HJ.out.z) 2
 have yf0:=blk_free (HJ.out.z) 0
 have yf1:=blk_free (HJ.out.z) 1
 have yf2:=blk_free (HJ.out.z) 2
 have yl:=blk_lt (HJ.out.z)
 simp only [List.getElem?_toArray,List.getElem?_cons_zero,List.getElem?_cons_succ] at y0 y1 y2
 go_wp2_with (first | (go_at_call 60;refine (fail_no _ _).mono ?_;rintro e w' ⟨rfl,rfl⟩) | (go_at_call 40;refine (HNB.out _).mono ?_;rintro e w6 ⟨rfl,hb6⟩;have HJ6:=Lib.hid (HJ.out.below hb6);clear hb6;obtain ⟨zz0,zz1,zz2,zzf0,zzf1,zzf2,zzl⟩:=c3_of HJ6.out.z))
 generalize floatOfInt .f64 tx.length = rq at *
 have h3:((((w6).setCell ⟨w.heap.size + 1,0,none⟩ (.bool false)).setCell ⟨w.heap.size + 1,1,none⟩ (.string ⟨#[]⟩)).setCell ⟨w.heap.size + 1,2,none⟩ (.float .f64 rq)).heap[w.heap.size + 1]? = some (.cells #[.bool false,.string ⟨#[]⟩,.float .f64 rq] 47 (0,0)):=blk_set (blk_set (blk_set HJ6.out.z 0 _) 1 _) 2 _
 have hb3:Below w.heap.size w ((((w6).setCell ⟨w.heap.size + 1,0,none⟩ (.bool false)).setCell ⟨w.heap.size + 1,1,none⟩ (.string ⟨#[]⟩)).setCell ⟨w.heap.size + 1,2,none⟩ (.float .f64 rq)):=((HJ6.out.bel.setCell (by simp <;> omega) _).setCell (by simp <;> omega) _).setCell (by simp <;> omega) _
 generalize ((((w6).setCell _ _).setCell _ _).setCell _ _) = w3 at h3 hb3 ⊢
 have z0:=blk_cell (h3) 0
 have z1:=blk_cell (h3) 1
 have z2:=blk_cell (h3) 2
 have zf0:=blk_free (h3) 0
 have zf1:=blk_free (h3) 1
 have zf2:=blk_free (h3) 2
 have zl:=blk_lt (h3)
 simp only [List.getElem?_toArray,List.getElem?_cons_zero,List.getElem?_cons_succ] at z0 z1 z2
 refine bodyPost_ret (v:=.agg #[.bool false,.string ⟨#[]⟩,.float .f64 rq]) (by simp [results,Tryz.results118,go_sem,z0,z1,z2]) rfl ?_
 exact ValP.ok (c:=numV rq) hb3 HNQ.out
set_option maxHeartbeats 4000000 in
theorem pure_num_no (tx:List UInt8) (nx ra:Nat) (w:World) (ha:NumOk ⟨false,tx,nx⟩ ra) :
  Calls Tryz.prog 118 #[.string ⟨#[110,117,109]⟩,vV false tx ra] w (ValP (.ok ⟨false,tx,nx⟩) w):=by
 have HNQ:=Lib.hid ha
 clear ha
 go_enter Tryz.func118,Tryz.ntmps118
 go_upto_region 1 with fail
 have HJ:=Lib.hid (BP.start w ⟨false,tx,nx⟩ ra)
 change Code.wp _ _ _ _ ((w.alloc (vO false tx ra)).alloc (vO false [] 0))
 generalize (w.alloc (vO false tx ra)).alloc (vO false [] 0) = wr at *
 have x0:=blk_cell (HJ.out.x) 0
 have x1:=blk_cell (HJ.out.x) 1
 have x2:=blk_cell (HJ.out.x) 2
 have xf0:=blk_free (HJ.out.x) 0
 have xf1:=blk_free (HJ.out.x) 1
 have xf2:=blk_free (HJ.out.x) 2
 have xl:=blk_lt (HJ.out.x)
 simp only [List.getElem?_toArray,List.getElem?_cons_zero,List.getElem?_cons_succ] at x0 x1 x2
 have y0:=blk_cell (HJ.out.z) 0
 have y1:=blk_cell (HJ.out.z) 1
 have y2:=blk_cell (HJ.out.z) 2
 have yf0:=blk_free (HJ.out.z) 0
 have yf1:=blk_free (HJ.out.z) 1
 have yf2:=blk_free (HJ.out.z) 2
 have yl:=blk_lt (HJ.out.z)
 simp only [List.getElem?_toArray,List.getElem?_cons_zero,List.getElem?_cons_succ] at y0 y1 y2
 go_wp2_with fail
 have h3:((((wr).setCell ⟨w.heap.size + 1,0,none⟩ (.bool false)).setCell ⟨w.heap.size + 1,1,none⟩ (.string ⟨tx.toArray⟩)).setCell ⟨w.heap.size + 1,2,none⟩ (.float .f64 ra)).heap[w.heap.size + 1]? = some (.cells #[.bool false,.string ⟨tx.toArray⟩,.float .f64 ra] 47 (0,0)):=blk_set (blk_set (blk_set HJ.out.z 0 _) 1 _) 2 _
 have hb3:Below w.heap.size w ((((wr).setCell ⟨w.heap.size + 1,0,none⟩ (.bool false)).setCell ⟨w.heap.size + 1,1,none⟩ (.string ⟨tx.toArray⟩)).setCell ⟨w.heap.size + 1,2,none⟩ (.float .f64 ra)):=((HJ.out.bel.setCell (by simp <;> omega) _).setCell (by simp <;> omega) _).setCell (by simp <;> omega) _
 generalize ((((wr).setCell _ _).setCell _ _).setCell _ _) = w3 at h3 hb3 ⊢
 have z0:=blk_cell (h3) 0
 have z1:=blk_cell (h3) 1
 have z2:=blk_cell (h3) 2
 have zf0:=blk_free (h3) 0
 have zf1:=blk_free (h3) 1
 have zf2:=blk_free (h3) 2
 have zl:=blk_lt (h3)
 simp only [List.getElem?_toArray,List.getElem?_cons_zero,List.getElem?_cons_succ] at z0 z1 z2
 refine bodyPost_ret (v:=.agg #[.bool false,.string ⟨tx.toArray⟩,.float .f64 ra]) (by simp [results,Tryz.results118,go_sem,z0,z1,z2]) rfl ?_
 exact ValP.ok (c:=⟨false,tx,nx⟩) hb3 HNQ.out
set_option maxHeartbeats 4000000 in
theorem pure_whole (g tx:List UInt8) (ix:Bool) (nx ra:Nat) (w:World) (ha:NumOk ⟨ix,tx,nx⟩ ra) (hg:g ≠ nNum ∧ g ≠ nText ∧ g ≠ nLen) :
  Calls Tryz.prog 118 #[.string ⟨g.toArray⟩,vV ix tx ra] w (ValP (.ok (flagV (!ix && isW nx))) w):=by
 have HW:Hid (∀ W,Calls Tryz.prog 155 #[fv ra] W fun e w'=>e = .returned (.tuple #[.int .i64 (wholeN nx),.bool (isW nx)]) ∧ W = w'):=fun W=>by
  have h:=Whole_any ra W ha.2
  have e:cf ra = nx:=ha.1
  rw [← wholeN_cf ra,← isW_cf ra,e] at h
  exact h
 clear ha
 have hg1:(g == [110,117,109]) = false:=beq_eq_false_iff_ne.2 hg.1
 have hg2:(g == [116,101,120,116]) = false:=beq_eq_false_iff_ne.2 hg.2.1
 have hg3:(g == [108,101,110]) = false:=beq_eq_false_iff_ne.2 hg.2.2
 generalize isW nx = wq at *
 generalize wholeN nx = nq at *
 cases ix
 ·have e:(!false && wq) = wq:=rfl
  rw [e]
  clear e
  obtain ⟨q,hq⟩:∃ q,q = wq:=⟨_,rfl⟩
  rw [← hq]
  have HNQ:=Lib.hid (numF q)
  have HFQ:=Lib.hid (fun W=>flag_any q W)
  generalize (if q = true then 4607182418800017408 else 0) = rq at *
  rw [hq] at HFQ
  go_enter Tryz.func118,Tryz.ntmps118
  go_upto_region 1 with fail
  have HJ:=Lib.hid (BP.start w ⟨false,tx,nx⟩ ra)
  change Code.wp _ _ _ _ ((w.alloc (vO false tx ra)).alloc (vO false [] 0))
  generalize (w.alloc (vO false tx ra)).alloc (vO false [] 0) = wr at *
  have x0:=blk_cell (HJ.out.x) 0
  have x1:=blk_cell (HJ.out.x) 1
  have x2:=blk_cell (HJ.out.x) 2
  have xf0:=blk_free (HJ.out.x) 0
  have xf1:=blk_free (HJ.out.x) 1
  have xf2:=blk_free (HJ.out.x) 2
  have xl:=blk_lt (HJ.out.x)
  simp only [List.getElem?_toArray,List.getElem?_cons_zero,List.getElem?_cons_succ] at x0 x1 x2
  have y0:=blk_cell (HJ.out.z) 0
  have y1:=blk_cell (HJ.out.z) 1
  have y2:=blk_cell (HJ.out.z) 2
  have yf0:=blk_free (HJ.out.z) 0
  have yf1:=blk_free (HJ.out.z) 1
  have yf2:=blk_free (HJ.out.z) 2
  have yl:=blk_lt (HJ.out.z)
  simp only [List.getElem?_toArray,List.getElem?_cons_zero,List.getElem?_cons_succ] at y0 y1 y2
  go_wp2_with (first | (go_at_call 155;refine (HW.out _).mono ?_;rintro e w' ⟨rfl,rfl⟩) | (go_at_call 89;refine (HFQ.out _).mono ?_;rintro e w6 ⟨rfl,hb6⟩;have HJ6:=Lib.hid (HJ.out.below hb6);clear hb6;obtain ⟨zz0,zz1,zz2,zzf0,zzf1,zzf2,zzl⟩:=c3_of HJ6.out.z))
  have h3:((((w6).setCell ⟨w.heap.size + 1,0,none⟩ (.bool false)).setCell ⟨w.heap.size + 1,1,none⟩ (.string ⟨#[]⟩)).setCell ⟨w.heap.size + 1,2,none⟩ (.float .f64 rq)).heap[w.heap.size + 1]? = some (.cells #[.bool false,.string ⟨#[]⟩,.float .f64 rq] 47 (0,0)):=blk_set (blk_set (blk_set HJ6.out.z 0 _) 1 _) 2 _
  have hb3:Below w.heap.size w ((((w6).setCell ⟨w.heap.size + 1,0,none⟩ (.bool false)).setCell ⟨w.heap.size + 1,1,none⟩ (.string ⟨#[]⟩)).setCell ⟨w.heap.size + 1,2,none⟩ (.float .f64 rq)):=((HJ6.out.bel.setCell (by simp <;> omega) _).setCell (by simp <;> omega) _).setCell (by simp <;> omega) _
  generalize ((((w6).setCell _ _).setCell _ _).setCell _ _) = w3 at h3 hb3 ⊢
  have z0:=blk_cell (h3) 0
  have z1:=blk_cell (h3) 1
  have z2:=blk_cell (h3) 2
  have zf0:=blk_free (h3) 0
  have zf1:=blk_free (h3) 1
  have zf2:=blk_free (h3) 2
  have zl:=blk_lt (h3)
  simp only [List.getElem?_toArray,List.getElem?_cons_zero,List.getElem?_cons_succ] at z0 z1 z2
  refine bodyPost_ret (v:=.agg #[.bool false,.string ⟨#[]⟩,.float .f64 rq]) (by simp [results,Tryz.results118,go_sem,z0,z1,z2]) rfl ?_
  exact ValP.ok (c:=flagV q) hb3 HNQ.out
 ·have e:(!true && wq) = false:=rfl
  rw [e]
  clear e
  obtain ⟨q,hq⟩:∃ q,q = false:=⟨_,rfl⟩
  rw [← hq]
  have HNQ:=Lib.hid (numF q)
  have HFQ:=Lib.hid (fun W=>flag_any q W)
  generalize (if q = true then 4607182418800017408 else 0) = rq at *
  rw [hq] at HFQ
  go_enter Tryz.func118,Tryz.ntmps118
  go_upto_region 1 with fail
  have HJ:=Lib.hid (BP.start w ⟨true,tx,nx⟩ ra)
  change Code.wp _ _ _ _ ((w.alloc (vO true tx ra)).alloc (vO false [] 0))
  generalize (w.alloc (vO true tx ra)).alloc (vO false [] 0) = wr at *
  have x0:=blk_cell (HJ.out.x) 0
  have x1:=blk_cell (HJ.out.x) 1
  have x2:=blk_cell (HJ.out.x) 2
  have xf0:=blk_free (HJ.out.x) 0
  have xf1:=blk_free (HJ.out.x) 1
  have xf2:=blk_free (HJ.out.x) 2
  have xl:=blk_lt (HJ.out.x)
  simp only [List.getElem?_toArray,List.getElem?_cons_zero,List.getElem?_cons_succ] at x0 x1 x2
  have y0:=blk_cell (HJ.out.z) 0
  have y1:=blk_cell (HJ.out.z) 1
  have y2:=blk_cell (HJ.out.z) 2
  have yf0:=blk_free (HJ.out.z) 0
  have yf1:=blk_free (HJ.out.z) 1
  have yf2:=blk_free (HJ.out.z) 2
  have yl:=blk_lt (HJ.out.z)
  simp only [List.getElem?_toArray,List.getElem?_cons_zero,List.getElem?_cons_succ] at y0 y1 y2
  go_wp2_with (first | (go_at_call 155;refine (HW.out _).mono ?_;rintro e w' ⟨rfl,rfl⟩) | (go_at_call 89;refine (HFQ.out _).mono ?_;rintro e w6 ⟨rfl,hb6⟩;have HJ6:=Lib.hid (HJ.out.below hb6);clear hb6;obtain ⟨zz0,zz1,zz2,zzf0,zzf1,zzf2,zzl⟩:=c3_of HJ6.out.z))
  have h3:((((w6).setCell ⟨w.heap.size + 1,0,none⟩ (.bool false)).setCell ⟨w.heap.size + 1,1,none⟩ (.string ⟨#[]⟩)).setCell ⟨w.heap.size + 1,2,none⟩ (.float .f64 rq)).heap[w.heap.size + 1]? = some (.cells #[.bool false,.string ⟨#[]⟩,.float .f64 rq] 47 (0,0)):=blk_set (blk_set (blk_set HJ6.out.z 0 _) 1 _) 2 _
  have hb3:Below w.heap.size w ((((w6).setCell ⟨w.heap.size + 1,0,none⟩ (.bool false)).setCell ⟨w.heap.size + 1,1,none⟩ (.string ⟨#[]⟩)).setCell ⟨w.heap.size + 1,2,none⟩ (.float .f64 rq)):=((HJ6.out.bel.setCell (by simp <;> omega) _).setCell (by simp <;> omega) _).setCell (by simp <;> omega) _
  generalize ((((w6).setCell _ _).setCell _ _).setCell _ _) = w3 at h3 hb3 ⊢
  have z0:=blk_cell (h3) 0
  have z1:=blk_cell (h3) 1
  have z2:=blk_cell (h3) 2
  have zf0:=blk_free (h3) 0
  have zf1:=blk_free (h3) 1
  have zf2:=blk_free (h3) 2
  have zl:=blk_lt (h3)
  simp only [List.getElem?_toArray,List.getElem?_cons_zero,List.getElem?_cons_succ] at z0 z1 z2
  refine bodyPost_ret (v:=.agg #[.bool false,.string ⟨#[]⟩,.float .f64 rq]) (by simp [results,Tryz.results118,go_sem,z0,z1,z2]) rfl ?_
  exact ValP.ok (c:=flagV q) hb3 HNQ.out
theorem ofT_lt {l:List UInt8} {a:Nat} (h:ofT l = some a):a < 18446744073709551616:=by
 unfold ofT at h
 cases hb:bodyV (bodyL l) with
 | none=>rw [hb] at h;cases h
 | some p =>
  obtain ⟨x,is⟩:=p
  rw [hb] at h
  have hx:=bodyV_lt hb
  simp only at h
  split at h
  ·cases h
  ·cases h
   unfold signV
   split
   ·exact ng_lt _ hx
   ·exact hx
theorem ofT_nanL:ofT [110,97,110] = some 9221120237041090561:=by decide +kernel
set_option maxHeartbeats 4000000 in
theorem pure_num (tx:List UInt8) (nx ra:Nat) (w:World) (hl:tx.length ≤ 1000000) :
  Calls Tryz.prog 118 #[.string ⟨#[110,117,109]⟩,vV true tx ra] w (ValP (.ok (numV (cf ((ofT tx).getD NANB)))) w):=by
 have HO:Hid (∀ W,Calls Tryz.prog 135 #[.string ⟨tx.toArray⟩] W fun e w'=>e = .returned (ofE tx) ∧ Below W.heap.size W w'):=fun W=>OfText_any tx W (by omega)
 have HON:Hid (∀ W,Calls Tryz.prog 135 #[.string ⟨#[110,97,110]⟩] W fun e w'=>e = .returned (.tuple #[fv 9221120237041090561,.int .i64 0]) ∧ Below W.heap.size W w'):=fun W=>by
  have h:=OfText_any [110,97,110] W (by simp)
  unfold ofE at h
  rw [ofT_nanL] at h
  exact h
 unfold ofE at HO
 cases h:ofT tx with
 | none =>
  rw [h] at HO
  simp only at HO
  have HNQ:Hid (NumOk (numV (cf ((none:Option Nat).getD NANB))) 9221120237041090561):=⟨by show cf NANB = cf NANB;rfl,by decide⟩
  have HNB:=Lib.hid (fun W=>number_any 9221120237041090561 W)
  clear h
  go_enter Tryz.func118,Tryz.ntmps118
  go_upto_region 1 with fail
  have HJ:=Lib.hid (BP.start w ⟨true,tx,nx⟩ ra)
  change Code.wp _ _ _ _ ((w.alloc (vO true tx ra)).alloc (vO false [] 0))
  generalize (w.alloc (vO true tx ra)).alloc (vO false [] 0) = wr at *
  have x0:=blk_cell (HJ.out.x) 0
  have x1:=blk_cell (HJ.out.x) 1
  have x2:=blk_cell (HJ.out.x) 2
  have xf0:=blk_free (HJ.out.x) 0
  have xf1:=blk_free (HJ.out.x) 1
  have xf2:=blk_free (HJ.out.x) 2
  have xl:=blk_lt (HJ.out.x)
  simp only [List.getElem?_toArray,List.getElem?_cons_zero,List.getElem?_cons_succ] at x0 x1 x2
  have y0:=blk_cell (HJ.out.z) 0
  have y1:=blk_cell (HJ.out.z) 1
  have y2:=blk_cell (HJ.out.z) 2
  have yf0:=blk_free (HJ.out.z) 0
  have yf1:=blk_free (HJ.out.z) 1
  have yf2:=blk_free (HJ.out.z) 2
  have yl:=blk_lt (HJ.out.z)
  simp only [List.getElem?_toArray,List.getElem?_cons_zero,List.getElem?_cons_succ] at y0 y1 y2
  go_wp2_with (first | (go_at_call 135;first | ((with_reducible refine (HO.out _).mono ?_);rintro e w5 ⟨rfl,hb5⟩;have HJ5:=Lib.hid (HJ.out.below hb5);clear hb5) | ((with_reducible refine (HON.out _).mono ?_);rintro e w4 ⟨rfl,hb4⟩;have HJ4:=Lib.hid (HJ5.out.below hb4);clear hb4)) | (go_at_call 40;refine (HNB.out _).mono ?_;rintro e w6 ⟨rfl,hb6⟩;have HJ6:=Lib.hid (HJ4.out.below hb6);clear hb6;obtain ⟨zz0,zz1,zz2,zzf0,zzf1,zzf2,zzl⟩:=c3_of HJ6.out.z))
  have h3:((((w6).setCell ⟨w.heap.size + 1,0,none⟩ (.bool false)).setCell ⟨w.heap.size + 1,1,none⟩ (.string ⟨#[]⟩)).setCell ⟨w.heap.size + 1,2,none⟩ (.float .f64 9221120237041090561)).heap[w.heap.size + 1]? = some (.cells #[.bool false,.string ⟨#[]⟩,.float .f64 9221120237041090561] 47 (0,0)):=blk_set (blk_set (blk_set HJ6.out.z 0 _) 1 _) 2 _
  have hb3:Below w.heap.size w ((((w6).setCell ⟨w.heap.size + 1,0,none⟩ (.bool false)).setCell ⟨w.heap.size + 1,1,none⟩ (.string ⟨#[]⟩)).setCell ⟨w.heap.size + 1,2,none⟩ (.float .f64 9221120237041090561)):=((HJ6.out.bel.setCell (by simp <;> omega) _).setCell (by simp <;> omega) _).setCell (by simp <;> omega) _
  generalize ((((w6).setCell _ _).setCell _ _).setCell _ _) = w3 at h3 hb3 ⊢
  have z0:=blk_cell (h3) 0
  have z1:=blk_cell (h3) 1
  have z2:=blk_cell (h3) 2
  have zf0:=blk_free (h3) 0
  have zf1:=blk_free (h3) 1
  have zf2:=blk_free (h3) 2
  have zl:=blk_lt (h3)
  simp only [List.getElem?_toArray,List.getElem?_cons_zero,List.getElem?_cons_succ] at z0 z1 z2
  refine bodyPost_ret (v:=.agg #[.bool false,.string ⟨#[]⟩,.float .f64 9221120237041090561]) (by simp [results,Tryz.results118,go_sem,z0,z1,z2]) rfl ?_
  exact ⟨hb3,9221120237041090561,rfl,HNQ.out⟩
 | some r =>
  rw [h] at HO
  simp only at HO
  have HNQ:Hid (NumOk (numV (cf ((some r).getD NANB))) r):=⟨rfl,ofT_lt h⟩
  have HNB:=Lib.hid (fun W=>number_any r W)
  clear h
  have e:numV (cf ((some r).getD NANB)) = numV (cf r):=rfl
  rw [e] at HNQ ⊢
  go_enter Tryz.func118,Tryz.ntmps118
  go_upto_region 1 with fail
  have HJ:=Lib.hid (BP.start w ⟨true,tx,nx⟩ ra)
  change Code.wp _ _ _ _ ((w.alloc (vO true tx ra)).alloc (vO false [] 0))
  generalize (w.alloc (vO true tx ra)).alloc (vO false [] 0) = wr at *
  have x0:=blk_cell (HJ.out.x) 0
  have x1:=blk_cell (HJ.out.x) 1
  have x2:=blk_cell (HJ.out.x) 2
  have xf0:=blk_free (HJ.out.x) 0
  have xf1:=blk_free (HJ.out.x) 1
  have xf2:=blk_free (HJ.out.x) 2
  have xl:=blk_lt (HJ.out.x)
  simp only [List.getElem?_toArray,List.getElem?_cons_zero,List.getElem?_cons_succ] at x0 x1 x2
  have y0:=blk_cell (HJ.out.z) 0
  have y1:=blk_cell (HJ.out.z) 1
  have y2:=blk_cell (HJ.out.z) 2
  have yf0:=blk_free (HJ.out.z) 0
  have yf1:=blk_free (HJ.out.z) 1
  have yf2:=blk_free (HJ.out.z) 2
  have yl:=blk_lt (HJ.out.z)
  simp only [List.getElem?_toArray,List.getElem?_cons_zero,List.getElem?_cons_succ] at y0 y1 y2
  go_wp2_with (first | (go_at_call 135;refine (HO.out _).mono ?_;rintro e w5 ⟨rfl,hb5⟩;have HJ5:=Lib.hid (HJ.out.below hb5);clear hb5) | (go_at_call 40;refine (HNB.out _).mono ?_;rintro e w6 ⟨rfl,hb6⟩;have HJ6:=Lib.hid (HJ5.out.below hb6);clear hb6;obtain ⟨zz0,zz1,zz2,zzf0,zzf1,zzf2,zzl⟩:=c3_of HJ6.out.z))
  have h3:((((w6).setCell ⟨w.heap.size + 1,0,none⟩ (.bool false)).setCell ⟨w.heap.size + 1,1,none⟩ (.string ⟨#[]⟩)).setCell ⟨w.heap.size + 1,2,none⟩ (.float .f64 r)).heap[w.heap.size + 1]? = some (.cells #[.bool false,.string ⟨#[]⟩,.float .f64 r] 47 (0,0)):=blk_set (blk_set (blk_set HJ6.out.z 0 _) 1 _) 2 _
  have hb3:Below w.heap.size w ((((w6).setCell ⟨w.heap.size + 1,0,none⟩ (.bool false)).setCell ⟨w.heap.size + 1,1,none⟩ (.string ⟨#[]⟩)).setCell ⟨w.heap.size + 1,2,none⟩ (.float .f64 r)):=((HJ6.out.bel.setCell (by simp <;> omega) _).setCell (by simp <;> omega) _).setCell (by simp <;> omega) _
  generalize ((((w6).setCell _ _).setCell _ _).setCell _ _) = w3 at h3 hb3 ⊢
  have z0:=blk_cell (h3) 0
  have z1:=blk_cell (h3) 1
  have z2:=blk_cell (h3) 2
  have zf0:=blk_free (h3) 0
  have zf1:=blk_free (h3) 1
  have zf2:=blk_free (h3) 2
  have zl:=blk_lt (h3)
  simp only [List.getElem?_toArray,List.getElem?_cons_zero,List.getElem?_cons_succ] at z0 z1 z2
  refine bodyPost_ret (v:=.agg #[.bool false,.string ⟨#[]⟩,.float .f64 r]) (by simp [results,Tryz.results118,go_sem,z0,z1,z2]) rfl ?_
  exact ValP.ok (c:=numV (cf r)) hb3 HNQ.out
theorem num_len {n:Nat} (h:n ≤ 1000000):NumOk (numV (floatOfInt .f64 n)) (floatOfInt .f64 n):=by
 have hf:=(pfin (fl n) (fl_lt n (by omega))).1
 rw [floatOfInt_nat]
 exact ⟨cf_ok (nan_fin _ hf),hf.1⟩
theorem pure_any (g:List UInt8) (a:Val) (ra:Nat) (w:World) (ha:NumOk a ra) (hl:a.text.length ≤ 1000000) :
  Calls Tryz.prog 118 #[.string ⟨g.toArray⟩,vV a.isT a.text ra] w (ValP (pureM g a) w):=by
 obtain ⟨ix,tx,nx⟩:=a
 simp only at hl ⊢
 by_cases h1:g = nNum
 ·subst h1
  have e:pureM nNum ⟨ix,tx,nx⟩ = if ix then .ok (numV (cf ((ofT tx).getD NANB))) else .ok ⟨ix,tx,nx⟩:=by unfold pureM;rw [if_pos rfl]
  rw [e]
  cases ix
  ·exact pure_num_no tx nx ra w ha
  ·exact pure_num tx nx ra w hl
 by_cases h2:g = nText
 ·subst h2
  have e:pureM nText ⟨ix,tx,nx⟩ = .ok (textV (shown ⟨ix,tx,nx⟩)):=by unfold pureM;rw [if_neg h1,if_pos rfl]
  rw [e]
  exact pure_text ix tx nx ra w ha
 by_cases h3:g = nLen
 ·subst h3
  have e:pureM nLen ⟨ix,tx,nx⟩ = if ix then .ok (numV (floatOfInt .f64 tx.length)) else .error (2201,[]):=by unfold pureM;rw [if_neg h1,if_neg h2,if_pos rfl]
  rw [e]
  cases ix
  ·exact pure_len_no tx nx ra w
  ·exact pure_len tx nx ra w hl (num_len hl)
 have e:pureM g ⟨ix,tx,nx⟩ = .ok (flagV (!ix && isW nx)):=by unfold pureM;rw [if_neg h1,if_neg h2,if_neg h3]
 rw [e]
 exact pure_whole g tx ix nx ra w ha ⟨h1,h2,h3⟩
end Go.Proofs.YtmfpmandkhiknaaGreatDoor.vmm
