/-
  Proved: what the machine's operators of numbers return. Conditions: as each theorem says.
-/
import Derived.Test.YtmfpmandkhiknaaGreatDoorPw10
set_option linter.unusedVariables false
set_option linter.unusedSimpArgs false
namespace Go.Proofs.YtmfpmandkhiknaaGreatDoor.vmm
open Go Go.RowKit Ieee
open flt heap
open lex (run_store_float)
set_option maxRecDepth 100000
attribute [local go_sem] run_store_float
set_option maxHeartbeats 4000000 in
theorem bin_add (ta tb:List UInt8) (na nb ra rb:Nat) (w:World) (z:Nat)
  (HF:∀ W,Calls Tryz.prog 162 #[fv ra,fv rb] W fun e w'=>∃ r,e = .returned (fv r) ∧ NumOk (numV z) r ∧ Below W.heap.size W w') (op:Int) (hop:op = 7) :
  Calls Tryz.prog 92 #[.int .i64 7,vV false ta ra,vV false tb rb] w (ValP (.ok (numV z)) w):=by
 have HFF:=Lib.hid HF
 clear HF
 skip
 go_enter Tryz.func92,Tryz.ntmps92
 go_upto_region 1 with fail
 have HJ:=Lib.hid (BJ.start w ⟨false,ta,na⟩ ⟨false,tb,nb⟩ ra rb)
 change Code.wp _ _ _ _ (((w.alloc (vO false ta ra)).alloc (vO false tb rb)).alloc (vO false [] 0))
 generalize ((w.alloc (vO false ta ra)).alloc (vO false tb rb)).alloc (vO false [] 0) = wr at *
 have x0:=blk_cell (HJ.out.x) 0
 have x1:=blk_cell (HJ.out.x) 1
 have x2:=blk_cell (HJ.out.x) 2
 have xf0:=blk_free (HJ.out.x) 0
 have xf1:=blk_free (HJ.out.x) 1
 have xf2:=blk_free (HJ.out.x) 2
 have xl:=blk_lt (HJ.out.x)
 simp only [List.getElem?_toArray,List.getElem?_cons_zero,List.getElem?_cons_succ] at x0 x1 x2
 have y0:=blk_cell (HJ.out.y) 0
 have y1:=blk_cell (HJ.out.y) 1
 have y2:=blk_cell (HJ.out.y) 2
 have yf0:=blk_free (HJ.out.y) 0
 have yf1:=blk_free (HJ.out.y) 1
 have yf2:=blk_free (HJ.out.y) 2
 have yl:=blk_lt (HJ.out.y)
 simp only [List.getElem?_toArray,List.getElem?_cons_zero,List.getElem?_cons_succ] at y0 y1 y2
 have HAR:Hid (∀ W,Calls Tryz.prog 123 #[.int .i64 7] W fun e w'=>e = .returned (.func (.func 162) #[] #[]) ∧ W = w'):=fun W=>arith_any 7 W
 have HNB:=Lib.hid (fun r W=>number_any r W)
 go_upto_region 12 with (go_at_call 87;refine (numbers_any _ [(⟨false,ta,na⟩,ra),(⟨false,tb,nb⟩,rb)] _ (VV.new (blk_new wr _) (by simp)) (by simp)).mono ?_;rintro e w5 ⟨hb5,hok,-⟩;obtain rfl:=hok rfl;have HJ5:=Lib.hid (HJ.out.below (((Below.refl wr.heap.size wr).alloc (Nat.le_refl _) _).trans (hb5.mono (by simp))));clear hb5 hok)
 clear x0 x1 x2 xf0 xf1 xf2 xl y0 y1 y2 yf0 yf1 yf2 yl
 have x0:=blk_cell (HJ5.out.x) 0
 have x1:=blk_cell (HJ5.out.x) 1
 have x2:=blk_cell (HJ5.out.x) 2
 have xf0:=blk_free (HJ5.out.x) 0
 have xf1:=blk_free (HJ5.out.x) 1
 have xf2:=blk_free (HJ5.out.x) 2
 have xl:=blk_lt (HJ5.out.x)
 simp only [List.getElem?_toArray,List.getElem?_cons_zero,List.getElem?_cons_succ] at x0 x1 x2
 have y0:=blk_cell (HJ5.out.y) 0
 have y1:=blk_cell (HJ5.out.y) 1
 have y2:=blk_cell (HJ5.out.y) 2
 have yf0:=blk_free (HJ5.out.y) 0
 have yf1:=blk_free (HJ5.out.y) 1
 have yf2:=blk_free (HJ5.out.y) 2
 have yl:=blk_lt (HJ5.out.y)
 simp only [List.getElem?_toArray,List.getElem?_cons_zero,List.getElem?_cons_succ] at y0 y1 y2
 go_region_law
  (go_simp
   first
     | (go_at_call 123
        refine (HAR.out _).mono ?_
        rintro e w6 ⟨rfl,rfl⟩)
     | (go_at_call 162
        refine (HFF.out _).mono ?_
        rintro e w7 ⟨r7,rfl,hn7,hb7⟩
        have HJ7:=Lib.hid (HJ5.out.drew.below hb7)
        have HN7:=Lib.hid hn7
        clear hb7 hn7)
     | (go_at_call 40
        refine (HNB.out _ _).mono ?_
        rintro e w8 ⟨rfl,hb8⟩
        have HJ8:=Lib.hid (HJ7.out.below hb8)
        clear hb8
        obtain ⟨zz0,zz1,zz2,zzf0,zzf1,zzf2,zzl⟩:=c3_of HJ8.out.z))
 all_goals
  have h3:((((w8).setCell ⟨w.heap.size + 1 + 1,0,none⟩ (.bool false)).setCell ⟨w.heap.size + 1 + 1,1,none⟩ (.string ⟨#[]⟩)).setCell ⟨w.heap.size + 1 + 1,2,none⟩ (.float .f64 r7)).heap[w.heap.size + 1 + 1]? = some (.cells #[.bool false,.string ⟨#[]⟩,.float .f64 r7] 47 (0,0)):=blk_set (blk_set (blk_set HJ8.out.z 0 _) 1 _) 2 _
  have hb3:Below w.heap.size w ((((w8).setCell ⟨w.heap.size + 1 + 1,0,none⟩ (.bool false)).setCell ⟨w.heap.size + 1 + 1,1,none⟩ (.string ⟨#[]⟩)).setCell ⟨w.heap.size + 1 + 1,2,none⟩ (.float .f64 r7)):=((HJ8.out.bel.setCell (by simp <;> omega) _).setCell (by simp <;> omega) _).setCell (by simp <;> omega) _
  generalize ((((w8).setCell _ _).setCell _ _).setCell _ _) = w3 at h3 hb3 ⊢
  clear zz0 zz1 zz2 zzf0 zzf1 zzf2 zzl
  go_wp2_with fail
  have z0:=blk_cell (h3) 0
  have z1:=blk_cell (h3) 1
  have z2:=blk_cell (h3) 2
  have zf0:=blk_free (h3) 0
  have zf1:=blk_free (h3) 1
  have zf2:=blk_free (h3) 2
  have zl:=blk_lt (h3)
  simp only [List.getElem?_toArray,List.getElem?_cons_zero,List.getElem?_cons_succ] at z0 z1 z2
  refine bodyPost_ret (v:=.agg #[.bool false,.string ⟨#[]⟩,.float .f64 r7]) (by simp [results,Tryz.results92,go_sem,z0,z1,z2]) rfl ?_
  exact ValP.ok (c:=numV z) hb3 HN7.out
set_option maxHeartbeats 4000000 in
theorem bin_sub (ta tb:List UInt8) (na nb ra rb:Nat) (w:World) (z:Nat)
  (HF:∀ W,Calls Tryz.prog 163 #[fv ra,fv rb] W fun e w'=>∃ r,e = .returned (fv r) ∧ NumOk (numV z) r ∧ Below W.heap.size W w') (op:Int) (hop:op = 8) :
  Calls Tryz.prog 92 #[.int .i64 8,vV false ta ra,vV false tb rb] w (ValP (.ok (numV z)) w):=by
 have HFF:=Lib.hid HF
 clear HF
 skip
 go_enter Tryz.func92,Tryz.ntmps92
 go_upto_region 1 with fail
 have HJ:=Lib.hid (BJ.start w ⟨false,ta,na⟩ ⟨false,tb,nb⟩ ra rb)
 change Code.wp _ _ _ _ (((w.alloc (vO false ta ra)).alloc (vO false tb rb)).alloc (vO false [] 0))
 generalize ((w.alloc (vO false ta ra)).alloc (vO false tb rb)).alloc (vO false [] 0) = wr at *
 have x0:=blk_cell (HJ.out.x) 0
 have x1:=blk_cell (HJ.out.x) 1
 have x2:=blk_cell (HJ.out.x) 2
 have xf0:=blk_free (HJ.out.x) 0
 have xf1:=blk_free (HJ.out.x) 1
 have xf2:=blk_free (HJ.out.x) 2
 have xl:=blk_lt (HJ.out.x)
 simp only [List.getElem?_toArray,List.getElem?_cons_zero,List.getElem?_cons_succ] at x0 x1 x2
 have y0:=blk_cell (HJ.out.y) 0
 have y1:=blk_cell (HJ.out.y) 1
 have y2:=blk_cell (HJ.out.y) 2
 have yf0:=blk_free (HJ.out.y) 0
 have yf1:=blk_free (HJ.out.y) 1
 have yf2:=blk_free (HJ.out.y) 2
 have yl:=blk_lt (HJ.out.y)
 simp only [List.getElem?_toArray,List.getElem?_cons_zero,List.getElem?_cons_succ] at y0 y1 y2
 have HAR:Hid (∀ W,Calls Tryz.prog 123 #[.int .i64 8] W fun e w'=>e = .returned (.func (.func 163) #[] #[]) ∧ W = w'):=fun W=>arith_any 8 W
 have HNB:=Lib.hid (fun r W=>number_any r W)
 go_upto_region 12 with (go_at_call 87;refine (numbers_any _ [(⟨false,ta,na⟩,ra),(⟨false,tb,nb⟩,rb)] _ (VV.new (blk_new wr _) (by simp)) (by simp)).mono ?_;rintro e w5 ⟨hb5,hok,-⟩;obtain rfl:=hok rfl;have HJ5:=Lib.hid (HJ.out.below (((Below.refl wr.heap.size wr).alloc (Nat.le_refl _) _).trans (hb5.mono (by simp))));clear hb5 hok)
 clear x0 x1 x2 xf0 xf1 xf2 xl y0 y1 y2 yf0 yf1 yf2 yl
 have x0:=blk_cell (HJ5.out.x) 0
 have x1:=blk_cell (HJ5.out.x) 1
 have x2:=blk_cell (HJ5.out.x) 2
 have xf0:=blk_free (HJ5.out.x) 0
 have xf1:=blk_free (HJ5.out.x) 1
 have xf2:=blk_free (HJ5.out.x) 2
 have xl:=blk_lt (HJ5.out.x)
 simp only [List.getElem?_toArray,List.getElem?_cons_zero,List.getElem?_cons_succ] at x0 x1 x2
 have y0:=blk_cell (HJ5.out.y) 0
 have y1:=blk_cell (HJ5.out.y) 1
 have y2:=blk_cell (HJ5.out.y) 2
 have yf0:=blk_free (HJ5.out.y) 0
 have yf1:=blk_free (HJ5.out.y) 1
 have yf2:=blk_free (HJ5.out.y) 2
 have yl:=blk_lt (HJ5.out.y)
 simp only [List.getElem?_toArray,List.getElem?_cons_zero,List.getElem?_cons_succ] at y0 y1 y2
 go_region_law
  (go_simp
   first
     | (go_at_call 123
        refine (HAR.out _).mono ?_
        rintro e w6 ⟨rfl,rfl⟩)
     | (go_at_call 163
        refine (HFF.out _).mono ?_
        rintro e w7 ⟨r7,rfl,hn7,hb7⟩
        have HJ7:=Lib.hid (HJ5.out.drew.below hb7)
        have HN7:=Lib.hid hn7
        clear hb7 hn7)
     | (go_at_call 40
        refine (HNB.out _ _).mono ?_
        rintro e w8 ⟨rfl,hb8⟩
        have HJ8:=Lib.hid (HJ7.out.below hb8)
        clear hb8
        obtain ⟨zz0,zz1,zz2,zzf0,zzf1,zzf2,zzl⟩:=c3_of HJ8.out.z))
 all_goals
  have h3:((((w8).setCell ⟨w.heap.size + 1 + 1,0,none⟩ (.bool false)).setCell ⟨w.heap.size + 1 + 1,1,none⟩ (.string ⟨#[]⟩)).setCell ⟨w.heap.size + 1 + 1,2,none⟩ (.float .f64 r7)).heap[w.heap.size + 1 + 1]? = some (.cells #[.bool false,.string ⟨#[]⟩,.float .f64 r7] 47 (0,0)):=blk_set (blk_set (blk_set HJ8.out.z 0 _) 1 _) 2 _
  have hb3:Below w.heap.size w ((((w8).setCell ⟨w.heap.size + 1 + 1,0,none⟩ (.bool false)).setCell ⟨w.heap.size + 1 + 1,1,none⟩ (.string ⟨#[]⟩)).setCell ⟨w.heap.size + 1 + 1,2,none⟩ (.float .f64 r7)):=((HJ8.out.bel.setCell (by simp <;> omega) _).setCell (by simp <;> omega) _).setCell (by simp <;> omega) _
  generalize ((((w8).setCell _ _).setCell _ _).setCell _ _) = w3 at h3 hb3 ⊢
  clear zz0 zz1 zz2 zzf0 zzf1 zzf2 zzl
  go_wp2_with fail
  have z0:=blk_cell (h3) 0
  have z1:=blk_cell (h3) 1
  have z2:=blk_cell (h3) 2
  have zf0:=blk_free (h3) 0
  have zf1:=blk_free (h3) 1
  have zf2:=blk_free (h3) 2
  have zl:=blk_lt (h3)
  simp only [List.getElem?_toArray,List.getElem?_cons_zero,List.getElem?_cons_succ] at z0 z1 z2
  refine bodyPost_ret (v:=.agg #[.bool false,.string ⟨#[]⟩,.float .f64 r7]) (by simp [results,Tryz.results92,go_sem,z0,z1,z2]) rfl ?_
  exact ValP.ok (c:=numV z) hb3 HN7.out
set_option maxHeartbeats 4000000 in
theorem bin_mul (ta tb:List UInt8) (na nb ra rb:Nat) (w:World) (z:Nat)
  (HF:∀ W,Calls Tryz.prog 164 #[fv ra,fv rb] W fun e w'=>∃ r,e = .returned (fv r) ∧ NumOk (numV z) r ∧ Below W.heap.size W w') (op:Int) (hop:op = 9) :
  Calls Tryz.prog 92 #[.int .i64 9,vV false ta ra,vV false tb rb] w (ValP (.ok (numV z)) w):=by
 have HFF:=Lib.hid HF
 clear HF
 skip
 go_enter Tryz.func92,Tryz.ntmps92
 go_upto_region 1 with fail
 have HJ:=Lib.hid (BJ.start w ⟨false,ta,na⟩ ⟨false,tb,nb⟩ ra rb)
 change Code.wp _ _ _ _ (((w.alloc (vO false ta ra)).alloc (vO false tb rb)).alloc (vO false [] 0))
 generalize ((w.alloc (vO false ta ra)).alloc (vO false tb rb)).alloc (vO false [] 0) = wr at *
 have x0:=blk_cell (HJ.out.x) 0
 have x1:=blk_cell (HJ.out.x) 1
 have x2:=blk_cell (HJ.out.x) 2
 have xf0:=blk_free (HJ.out.x) 0
 have xf1:=blk_free (HJ.out.x) 1
 have xf2:=blk_free (HJ.out.x) 2
 have xl:=blk_lt (HJ.out.x)
 simp only [List.getElem?_toArray,List.getElem?_cons_zero,List.getElem?_cons_succ] at x0 x1 x2
 have y0:=blk_cell (HJ.out.y) 0
 have y1:=blk_cell (HJ.out.y) 1
 have y2:=blk_cell (HJ.out.y) 2
 have yf0:=blk_free (HJ.out.y) 0
 have yf1:=blk_free (HJ.out.y) 1
 have yf2:=blk_free (HJ.out.y) 2
 have yl:=blk_lt (HJ.out.y)
 simp only [List.getElem?_toArray,List.getElem?_cons_zero,List.getElem?_cons_succ] at y0 y1 y2
 have HAR:Hid (∀ W,Calls Tryz.prog 123 #[.int .i64 9] W fun e w'=>e = .returned (.func (.func 164) #[] #[]) ∧ W = w'):=fun W=>arith_any 9 W
 have HNB:=Lib.hid (fun r W=>number_any r W)
 go_upto_region 12 with (go_at_call 87;refine (numbers_any _ [(⟨false,ta,na⟩,ra),(⟨false,tb,nb⟩,rb)] _ (VV.new (blk_new wr _) (by simp)) (by simp)).mono ?_;rintro e w5 ⟨hb5,hok,-⟩;obtain rfl:=hok rfl;have HJ5:=Lib.hid (HJ.out.below (((Below.refl wr.heap.size wr).alloc (Nat.le_refl _) _).trans (hb5.mono (by simp))));clear hb5 hok)
 clear x0 x1 x2 xf0 xf1 xf2 xl y0 y1 y2 yf0 yf1 yf2 yl
 have x0:=blk_cell (HJ5.out.x) 0
 have x1:=blk_cell (HJ5.out.x) 1
 have x2:=blk_cell (HJ5.out.x) 2
 have xf0:=blk_free (HJ5.out.x) 0
 have xf1:=blk_free (HJ5.out.x) 1
 have xf2:=blk_free (HJ5.out.x) 2
 have xl:=blk_lt (HJ5.out.x)
 simp only [List.getElem?_toArray,List.getElem?_cons_zero,List.getElem?_cons_succ] at x0 x1 x2
 have y0:=blk_cell (HJ5.out.y) 0
 have y1:=blk_cell (HJ5.out.y) 1
 have y2:=blk_cell (HJ5.out.y) 2
 have yf0:=blk_free (HJ5.out.y) 0
 have yf1:=blk_free (HJ5.out.y) 1
 have yf2:=blk_free (HJ5.out.y) 2
 have yl:=blk_lt (HJ5.out.y)
 simp only [List.getElem?_toArray,List.getElem?_cons_zero,List.getElem?_cons_succ] at y0 y1 y2
 go_region_law
  (go_simp
   first
     | (go_at_call 123
        refine (HAR.out _).mono ?_
        rintro e w6 ⟨rfl,rfl⟩)
     | (go_at_call 164
        refine (HFF.out _).mono ?_
        rintro e w7 ⟨r7,rfl,hn7,hb7⟩
        have HJ7:=Lib.hid (HJ5.out.drew.below hb7)
        have HN7:=Lib.hid hn7
        clear hb7 hn7)
     | (go_at_call 40
        refine (HNB.out _ _).mono ?_
        rintro e w8 ⟨rfl,hb8⟩
        have HJ8:=Lib.hid (HJ7.out.below hb8)
        clear hb8
        obtain ⟨zz0,zz1,zz2,zzf0,zzf1,zzf2,zzl⟩:=c3_of HJ8.out.z))
 all_goals
  have h3:((((w8).setCell ⟨w.heap.size + 1 + 1,0,none⟩ (.bool false)).setCell ⟨w.heap.size + 1 + 1,1,none⟩ (.string ⟨#[]⟩)).setCell ⟨w.heap.size + 1 + 1,2,none⟩ (.float .f64 r7)).heap[w.heap.size + 1 + 1]? = some (.cells #[.bool false,.string ⟨#[]⟩,.float .f64 r7] 47 (0,0)):=blk_set (blk_set (blk_set HJ8.out.z 0 _) 1 _) 2 _
  have hb3:Below w.heap.size w ((((w8).setCell ⟨w.heap.size + 1 + 1,0,none⟩ (.bool false)).setCell ⟨w.heap.size + 1 + 1,1,none⟩ (.string ⟨#[]⟩)).setCell ⟨w.heap.size + 1 + 1,2,none⟩ (.float .f64 r7)):=((HJ8.out.bel.setCell (by simp <;> omega) _).setCell (by simp <;> omega) _).setCell (by simp <;> omega) _
  generalize ((((w8).setCell _ _).setCell _ _).setCell _ _) = w3 at h3 hb3 ⊢
  clear zz0 zz1 zz2 zzf0 zzf1 zzf2 zzl
  go_wp2_with fail
  have z0:=blk_cell (h3) 0
  have z1:=blk_cell (h3) 1
  have z2:=blk_cell (h3) 2
  have zf0:=blk_free (h3) 0
  have zf1:=blk_free (h3) 1
  have zf2:=blk_free (h3) 2
  have zl:=blk_lt (h3)
  simp only [List.getElem?_toArray,List.getElem?_cons_zero,List.getElem?_cons_succ] at z0 z1 z2
  refine bodyPost_ret (v:=.agg #[.bool false,.string ⟨#[]⟩,.float .f64 r7]) (by simp [results,Tryz.results92,go_sem,z0,z1,z2]) rfl ?_
  exact ValP.ok (c:=numV z) hb3 HN7.out
set_option maxHeartbeats 4000000 in
theorem bin_div (ta tb:List UInt8) (na nb ra rb:Nat) (w:World) (z:Nat)
  (HF:∀ W,Calls Tryz.prog 165 #[fv ra,fv rb] W fun e w'=>∃ r,e = .returned (fv r) ∧ NumOk (numV z) r ∧ Below W.heap.size W w') (op:Int) (hop:op = 10) :
  Calls Tryz.prog 92 #[.int .i64 10,vV false ta ra,vV false tb rb] w (ValP (.ok (numV z)) w):=by
 have HFF:=Lib.hid HF
 clear HF
 skip
 go_enter Tryz.func92,Tryz.ntmps92
 go_upto_region 1 with fail
 have HJ:=Lib.hid (BJ.start w ⟨false,ta,na⟩ ⟨false,tb,nb⟩ ra rb)
 change Code.wp _ _ _ _ (((w.alloc (vO false ta ra)).alloc (vO false tb rb)).alloc (vO false [] 0))
 generalize ((w.alloc (vO false ta ra)).alloc (vO false tb rb)).alloc (vO false [] 0) = wr at *
 have x0:=blk_cell (HJ.out.x) 0
 have x1:=blk_cell (HJ.out.x) 1
 have x2:=blk_cell (HJ.out.x) 2
 have xf0:=blk_free (HJ.out.x) 0
 have xf1:=blk_free (HJ.out.x) 1
 have xf2:=blk_free (HJ.out.x) 2
 have xl:=blk_lt (HJ.out.x)
 simp only [List.getElem?_toArray,List.getElem?_cons_zero,List.getElem?_cons_succ] at x0 x1 x2
 have y0:=blk_cell (HJ.out.y) 0
 have y1:=blk_cell (HJ.out.y) 1
 have y2:=blk_cell (HJ.out.y) 2
 have yf0:=blk_free (HJ.out.y) 0
 have yf1:=blk_free (HJ.out.y) 1
 have yf2:=blk_free (HJ.out.y) 2
 have yl:=blk_lt (HJ.out.y)
 simp only [List.getElem?_toArray,List.getElem?_cons_zero,List.getElem?_cons_succ] at y0 y1 y2
 have HAR:Hid (∀ W,Calls Tryz.prog 123 #[.int .i64 10] W fun e w'=>e = .returned (.func (.func 165) #[] #[]) ∧ W = w'):=fun W=>arith_any 10 W
 have HNB:=Lib.hid (fun r W=>number_any r W)
 go_upto_region 12 with (go_at_call 87;refine (numbers_any _ [(⟨false,ta,na⟩,ra),(⟨false,tb,nb⟩,rb)] _ (VV.new (blk_new wr _) (by simp)) (by simp)).mono ?_;rintro e w5 ⟨hb5,hok,-⟩;obtain rfl:=hok rfl;have HJ5:=Lib.hid (HJ.out.below (((Below.refl wr.heap.size wr).alloc (Nat.le_refl _) _).trans (hb5.mono (by simp))));clear hb5 hok)
 clear x0 x1 x2 xf0 xf1 xf2 xl y0 y1 y2 yf0 yf1 yf2 yl
 have x0:=blk_cell (HJ5.out.x) 0
 have x1:=blk_cell (HJ5.out.x) 1
 have x2:=blk_cell (HJ5.out.x) 2
 have xf0:=blk_free (HJ5.out.x) 0
 have xf1:=blk_free (HJ5.out.x) 1
 have xf2:=blk_free (HJ5.out.x) 2
 have xl:=blk_lt (HJ5.out.x)
 simp only [List.getElem?_toArray,List.getElem?_cons_zero,List.getElem?_cons_succ] at x0 x1 x2
 have y0:=blk_cell (HJ5.out.y) 0
 have y1:=blk_cell (HJ5.out.y) 1
 have y2:=blk_cell (HJ5.out.y) 2
 have yf0:=blk_free (HJ5.out.y) 0
 have yf1:=blk_free (HJ5.out.y) 1
 have yf2:=blk_free (HJ5.out.y) 2
 have yl:=blk_lt (HJ5.out.y)
 simp only [List.getElem?_toArray,List.getElem?_cons_zero,List.getElem?_cons_succ] at y0 y1 y2
 go_region_law
  (go_simp
   first
     | (go_at_call 123
        refine (HAR.out _).mono ?_
        rintro e w6 ⟨rfl,rfl⟩)
     | (go_at_call 165
        refine (HFF.out _).mono ?_
        rintro e w7 ⟨r7,rfl,hn7,hb7⟩
        have HJ7:=Lib.hid (HJ5.out.drew.below hb7)
        have HN7:=Lib.hid hn7
        clear hb7 hn7)
     | (go_at_call 40
        refine (HNB.out _ _).mono ?_
        rintro e w8 ⟨rfl,hb8⟩
        have HJ8:=Lib.hid (HJ7.out.below hb8)
        clear hb8
        obtain ⟨zz0,zz1,zz2,zzf0,zzf1,zzf2,zzl⟩:=c3_of HJ8.out.z))
 all_goals
  have h3:((((w8).setCell ⟨w.heap.size + 1 + 1,0,none⟩ (.bool false)).setCell ⟨w.heap.size + 1 + 1,1,none⟩ (.string ⟨#[]⟩)).setCell ⟨w.heap.size + 1 + 1,2,none⟩ (.float .f64 r7)).heap[w.heap.size + 1 + 1]? = some (.cells #[.bool false,.string ⟨#[]⟩,.float .f64 r7] 47 (0,0)):=blk_set (blk_set (blk_set HJ8.out.z 0 _) 1 _) 2 _
  have hb3:Below w.heap.size w ((((w8).setCell ⟨w.heap.size + 1 + 1,0,none⟩ (.bool false)).setCell ⟨w.heap.size + 1 + 1,1,none⟩ (.string ⟨#[]⟩)).setCell ⟨w.heap.size + 1 + 1,2,none⟩ (.float .f64 r7)):=((HJ8.out.bel.setCell (by simp <;> omega) _).setCell (by simp <;> omega) _).setCell (by simp <;> omega) _
  generalize ((((w8).setCell _ _).setCell _ _).setCell _ _) = w3 at h3 hb3 ⊢
  clear zz0 zz1 zz2 zzf0 zzf1 zzf2 zzl
  go_wp2_with fail
  have z0:=blk_cell (h3) 0
  have z1:=blk_cell (h3) 1
  have z2:=blk_cell (h3) 2
  have zf0:=blk_free (h3) 0
  have zf1:=blk_free (h3) 1
  have zf2:=blk_free (h3) 2
  have zl:=blk_lt (h3)
  simp only [List.getElem?_toArray,List.getElem?_cons_zero,List.getElem?_cons_succ] at z0 z1 z2
  refine bodyPost_ret (v:=.agg #[.bool false,.string ⟨#[]⟩,.float .f64 r7]) (by simp [results,Tryz.results92,go_sem,z0,z1,z2]) rfl ?_
  exact ValP.ok (c:=numV z) hb3 HN7.out
theorem ne3 {op:Int} (h:op ≠ 12 ∧ op ≠ 13 ∧ op ≠ 14):(op == 12) = false ∧ (op == 13) = false ∧ (op == 14) = false:=⟨beq_eq_false_iff_ne.2 h.1,beq_eq_false_iff_ne.2 h.2.1,beq_eq_false_iff_ne.2 h.2.2⟩
theorem arF_mod {op:Int} (h:op ≠ 7 ∧ op ≠ 8 ∧ op ≠ 9 ∧ op ≠ 10):arF op = 166:=by unfold arF;rw [if_neg h.1,if_neg h.2.1,if_neg h.2.2.1,if_neg h.2.2.2]
set_option maxHeartbeats 4000000 in
theorem bin_mod (ta tb:List UInt8) (na nb ra rb:Nat) (w:World) (z:Nat)
  (HF:∀ W,Calls Tryz.prog 166 #[fv ra,fv rb] W fun e w'=>∃ r,e = .returned (fv r) ∧ NumOk (numV z) r ∧ Below W.heap.size W w') (op:Int) (hop:(op ≠ 12 ∧ op ≠ 13 ∧ op ≠ 14) ∧ op ≠ 7 ∧ op ≠ 8 ∧ op ≠ 9 ∧ op ≠ 10) :
  Calls Tryz.prog 92 #[.int .i64 op,vV false ta ra,vV false tb rb] w (ValP (.ok (numV z)) w):=by
 have HFF:=Lib.hid HF
 clear HF
 obtain ⟨b12,b13,b14⟩:=ne3 hop.1
 go_enter Tryz.func92,Tryz.ntmps92
 go_upto_region 1 with fail
 have HJ:=Lib.hid (BJ.start w ⟨false,ta,na⟩ ⟨false,tb,nb⟩ ra rb)
 change Code.wp _ _ _ _ (((w.alloc (vO false ta ra)).alloc (vO false tb rb)).alloc (vO false [] 0))
 generalize ((w.alloc (vO false ta ra)).alloc (vO false tb rb)).alloc (vO false [] 0) = wr at *
 have x0:=blk_cell (HJ.out.x) 0
 have x1:=blk_cell (HJ.out.x) 1
 have x2:=blk_cell (HJ.out.x) 2
 have xf0:=blk_free (HJ.out.x) 0
 have xf1:=blk_free (HJ.out.x) 1
 have xf2:=blk_free (HJ.out.x) 2
 have xl:=blk_lt (HJ.out.x)
 simp only [List.getElem?_toArray,List.getElem?_cons_zero,List.getElem?_cons_succ] at x0 x1 x2
 have y0:=blk_cell (HJ.out.y) 0
 have y1:=blk_cell (HJ.out.y) 1
 have y2:=blk_cell (HJ.out.y) 2
 have yf0:=blk_free (HJ.out.y) 0
 have yf1:=blk_free (HJ.out.y) 1
 have yf2:=blk_free (HJ.out.y) 2
 have yl:=blk_lt (HJ.out.y)
 simp only [List.getElem?_toArray,List.getElem?_cons_zero,List.getElem?_cons_succ] at y0 y1 y2
 have HAR:Hid (∀ W,Calls Tryz.prog 123 #[.int .i64 op] W fun e w'=>e = .returned (.func (.func 166) #[] #[]) ∧ W = w'):=fun W=>arF_mod hop.2 ▸ arith_any op W
 have HNB:=Lib.hid (fun r W=>number_any r W)
 go_upto_region 12 with (go_at_call 87;refine (numbers_any _ [(⟨false,ta,na⟩,ra),(⟨false,tb,nb⟩,rb)] _ (VV.new (blk_new wr _) (by simp)) (by simp)).mono ?_;rintro e w5 ⟨hb5,hok,-⟩;obtain rfl:=hok rfl;have HJ5:=Lib.hid (HJ.out.below (((Below.refl wr.heap.size wr).alloc (Nat.le_refl _) _).trans (hb5.mono (by simp))));clear hb5 hok)
 clear x0 x1 x2 xf0 xf1 xf2 xl y0 y1 y2 yf0 yf1 yf2 yl
 have x0:=blk_cell (HJ5.out.x) 0
 have x1:=blk_cell (HJ5.out.x) 1
 have x2:=blk_cell (HJ5.out.x) 2
 have xf0:=blk_free (HJ5.out.x) 0
 have xf1:=blk_free (HJ5.out.x) 1
 have xf2:=blk_free (HJ5.out.x) 2
 have xl:=blk_lt (HJ5.out.x)
 simp only [List.getElem?_toArray,List.getElem?_cons_zero,List.getElem?_cons_succ] at x0 x1 x2
 have y0:=blk_cell (HJ5.out.y) 0
 have y1:=blk_cell (HJ5.out.y) 1
 have y2:=blk_cell (HJ5.out.y) 2
 have yf0:=blk_free (HJ5.out.y) 0
 have yf1:=blk_free (HJ5.out.y) 1
 have yf2:=blk_free (HJ5.out.y) 2
 have yl:=blk_lt (HJ5.out.y)
 simp only [List.getElem?_toArray,List.getElem?_cons_zero,List.getElem?_cons_succ] at y0 y1 y2
 go_region_law
  (go_simp
   first
     | (go_at_call 123
        refine (HAR.out _).mono ?_
        rintro e w6 ⟨rfl,rfl⟩)
     | (go_at_call 166
        refine (HFF.out _).mono ?_
        rintro e w7 ⟨r7,rfl,hn7,hb7⟩
        have HJ7:=Lib.hid (HJ5.out.drew.below hb7)
        have HN7:=Lib.hid hn7
        clear hb7 hn7)
     | (go_at_call 40
        refine (HNB.out _ _).mono ?_
        rintro e w8 ⟨rfl,hb8⟩
        have HJ8:=Lib.hid (HJ7.out.below hb8)
        clear hb8
        obtain ⟨zz0,zz1,zz2,zzf0,zzf1,zzf2,zzl⟩:=c3_of HJ8.out.z))
 all_goals
  have h3:((((w8).setCell ⟨w.heap.size + 1 + 1,0,none⟩ (.bool false)).setCell ⟨w.heap.size + 1 + 1,1,none⟩ (.string ⟨#[]⟩)).setCell ⟨w.heap.size + 1 + 1,2,none⟩ (.float .f64 r7)).heap[w.heap.size + 1 + 1]? = some (.cells #[.bool false,.string ⟨#[]⟩,.float .f64 r7] 47 (0,0)):=blk_set (blk_set (blk_set HJ8.out.z 0 _) 1 _) 2 _
  have hb3:Below w.heap.size w ((((w8).setCell ⟨w.heap.size + 1 + 1,0,none⟩ (.bool false)).setCell ⟨w.heap.size + 1 + 1,1,none⟩ (.string ⟨#[]⟩)).setCell ⟨w.heap.size + 1 + 1,2,none⟩ (.float .f64 r7)):=((HJ8.out.bel.setCell (by simp <;> omega) _).setCell (by simp <;> omega) _).setCell (by simp <;> omega) _
  generalize ((((w8).setCell _ _).setCell _ _).setCell _ _) = w3 at h3 hb3 ⊢
  clear zz0 zz1 zz2 zzf0 zzf1 zzf2 zzl
  go_wp2_with fail
  have z0:=blk_cell (h3) 0
  have z1:=blk_cell (h3) 1
  have z2:=blk_cell (h3) 2
  have zf0:=blk_free (h3) 0
  have zf1:=blk_free (h3) 1
  have zf2:=blk_free (h3) 2
  have zl:=blk_lt (h3)
  simp only [List.getElem?_toArray,List.getElem?_cons_zero,List.getElem?_cons_succ] at z0 z1 z2
  refine bodyPost_ret (v:=.agg #[.bool false,.string ⟨#[]⟩,.float .f64 r7]) (by simp [results,Tryz.results92,go_sem,z0,z1,z2]) rfl ?_
  exact ValP.ok (c:=numV z) hb3 HN7.out
set_option maxHeartbeats 4000000 in
theorem bin_bad (op:Int) (ia ib:Bool) (ta tb:List UInt8) (na nb ra rb:Nat) (w:World) (hop:op ≠ 12 ∧ op ≠ 13 ∧ op ≠ 14) (hab:(ia || ib) = true) :
  Calls Tryz.prog 92 #[.int .i64 op,vV ia ta ra,vV ib tb rb] w (ValP (.error (2201,[])) w):=by
 obtain ⟨b12,b13,b14⟩:=ne3 hop
 have hq:Hid ((List.any [((⟨ia,ta,na⟩:Val),ra),(⟨ib,tb,nb⟩,rb)] (·.1.isT)) = true):=by
  show (ia || (ib || false)) = true
  rw [Bool.or_false]
  exact hab
 go_enter Tryz.func92,Tryz.ntmps92
 go_upto_region 1 with fail
 have HJ:=Lib.hid (BJ.start w ⟨ia,ta,na⟩ ⟨ib,tb,nb⟩ ra rb)
 change Code.wp _ _ _ _ (((w.alloc (vO ia ta ra)).alloc (vO ib tb rb)).alloc (vO false [] 0))
 generalize ((w.alloc (vO ia ta ra)).alloc (vO ib tb rb)).alloc (vO false [] 0) = wr at *
 have x0:=blk_cell (HJ.out.x) 0
 have x1:=blk_cell (HJ.out.x) 1
 have x2:=blk_cell (HJ.out.x) 2
 have xf0:=blk_free (HJ.out.x) 0
 have xf1:=blk_free (HJ.out.x) 1
 have xf2:=blk_free (HJ.out.x) 2
 have xl:=blk_lt (HJ.out.x)
 simp only [List.getElem?_toArray,List.getElem?_cons_zero,List.getElem?_cons_succ] at x0 x1 x2
 have y0:=blk_cell (HJ.out.y) 0
 have y1:=blk_cell (HJ.out.y) 1
 have y2:=blk_cell (HJ.out.y) 2
 have yf0:=blk_free (HJ.out.y) 0
 have yf1:=blk_free (HJ.out.y) 1
 have yf2:=blk_free (HJ.out.y) 2
 have yl:=blk_lt (HJ.out.y)
 simp only [List.getElem?_toArray,List.getElem?_cons_zero,List.getElem?_cons_succ] at y0 y1 y2
 go_upto_region 12 with (go_at_call 87;refine (numbers_any _ [(⟨ia,ta,na⟩,ra),(⟨ib,tb,nb⟩,rb)] _ (VV.new (blk_new wr _) (by simp)) (by simp)).mono ?_;rintro e w5 ⟨hb5,-,hok⟩;obtain rfl:=hok hq.out;exact ⟨rfl,ValP.err (HJ.out.bel.trans ((((Below.refl wr.heap.size wr).alloc (Nat.le_refl _) _).trans (hb5.mono (by simp))).mono HJ.out.bel.size))⟩)
end Go.Proofs.YtmfpmandkhiknaaGreatDoor.vmm
