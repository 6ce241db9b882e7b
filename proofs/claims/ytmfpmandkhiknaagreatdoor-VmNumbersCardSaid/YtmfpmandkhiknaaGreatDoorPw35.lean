/-
  Proved: which instructions may be: what Args and fair return. Conditions: as each theorem says.
  Proved: rows of instructions: none may not be, a copy, one more. Conditions: as each theorem says.
  Proved: a new machine. Conditions: as each theorem says.
-/
import Derived.Test.YtmfpmandkhiknaaGreatDoorPw22
import Derived.Test.YtmfpmandkhiknaaGreatDoorPw33
import Derived.Test.YtmfpmandkhiknaaGreatDoorPw34
set_option linter.unusedVariables false
set_option linter.unusedSimpArgs false
namespace Go.Proofs.YtmfpmandkhiknaaGreatDoor.vmm
open Go Go.RowKit Ieee
open flt heap maps
open lex (run_store_float add0)
open chk (functions_any fnV)
open many (fnL fnT)
set_option maxRecDepth 100000
attribute [local go_sem] run_store_float
theorem argL_eq:argL = fnL:=by decide
theorem find_lookup {β:Type} (t:Nm):∀ l:List (Nm × β),(l.find? (fun x=>x.1 == t)).map (·.2) = l.lookup t
 | []=>rfl
 | (a,b) :: l=>by
  rw [List.lookup_cons,List.find?_cons]
  have e:(t == a) = (a == t):=by rw [Bool.eq_iff_iff,beq_iff_eq,beq_iff_eq];exact eq_comm
  simp only [e]
  cases h:(a == t) with
  | true=>rfl
  | false=>exact find_lookup t l
theorem fnT_arg (t:Nm):fnT t = argN t:=by
 rw [argN_eq,argL_eq,← find_lookup]
 rfl
theorem look_lookup (t:Nm):∀ (l:List (Nm × Int)) (i:Nat),(maps.look t (l.map fun x=>(x.1,(.int .i64 x.2:Value))) i).map (·.2) = (l.lookup t).map (fun k=>(.int .i64 k:Value))
 | [],i=>rfl
 | (a,b) :: l,i=>by
  rw [List.lookup_cons,List.map_cons,maps.look]
  by_cases h:t = a
  ·subst h
   simp
  ·have e:(t == a) = false:=beq_eq_false_iff_ne.2 h
   rw [e,if_neg h]
   exact look_lookup t l (i + 1)
theorem Args_any (t:Nm) (k:Int) (w:World) (h:argN t = some k):Calls Tryz.prog 56 #[.string ⟨t.toArray⟩] w fun e w'=>e = .returned (.tuple #[.int .i64 k,.bool true]) ∧ Below w.heap.size w w':=by
 have HF:=Lib.hid (functions_any w)
 have hl:∀ (W:World) (b:Nat),MapS W b fnV → (Instr.lookup 70 (.map (some b)) (.string ⟨t.toArray⟩) true).run Tryz.prog W = .ok (.tuple #[.int .i64 k,.bool true]) W:=fun W b hm=>by
  have:=run_lookup_ok (P:=Tryz.prog) hm Tryz.underlying70 Tryz.underlying9 (.int .i64 0) (by kernel_rfl) t
  have e:=look_lookup t fnL 0
  rw [← argL_eq,← argN_eq,h] at e
  cases hk:maps.look t fnV 0 with
  | none=>rw [argL_eq] at e;unfold fnV at hk;rw [hk] at e;cases e
  | some r =>
   rw [argL_eq] at e
   have hk2:=hk
   unfold fnV at hk
   rw [hk] at e
   rw [hk2] at this
   simp only [Option.map_some,Option.some.injEq] at e
   simp only [Option.map_some,Option.getD_some,Option.isSome_some,e] at this
   exact this
 go_enter Tryz.func56,Tryz.ntmps56
 go_wp2_with (go_at_call 81;refine (HF.out).mono ?_;rintro e w5 ⟨b,rfl,hm,hb,hbl⟩;have HB:=Lib.hid hbl;have hlk:=hl _ _ hm;clear hm hbl)
 go_ret2
 exact ⟨rfl,HB.out⟩
set_option maxHeartbeats 1000000 in
theorem fair_ok (x:Ins) (r many:Nat) (w:World) (hf:fairM x many = true):Calls Tryz.prog 33 #[iV ⟨x,r⟩,.int .i64 many] w fun e w'=>e = .returned (.bool true) ∧ Below w.heap.size w w':=by
 obtain ⟨op,arg,num,t⟩:=x
 unfold fairM at hf
 by_cases h34:op = 3 ∨ op = 4
 ·rw [if_pos h34,Bool.and_eq_true,decide_eq_true_eq,decide_eq_true_eq] at hf
  simp only at hf
  have d1:decide (arg ≥ 0) = true:=decide_eq_true hf.1
  have d2:decide (arg < 64) = true:=decide_eq_true hf.2
  rcases h34 with rfl | rfl
  ·go_enter Tryz.func33,Tryz.ntmps33
   go_upto_region 1 with fail
   have hb1:=blk_new w (iO ⟨⟨3,arg,num,t⟩,r⟩)
   have HB1:Hid (Below w.heap.size w (w.alloc (iO ⟨⟨3,arg,num,t⟩,r⟩))):=(Below.refl _ _).alloc (Nat.le_refl _) _
   change Code.wp _ _ _ _ (w.alloc (iO ⟨⟨3,arg,num,t⟩,r⟩))
   generalize w.alloc (iO ⟨⟨3,arg,num,t⟩,r⟩) = w1 at *
   have x0:=blk_cell (hb1) 0
   have x1:=blk_cell (hb1) 1
   have x2:=blk_cell (hb1) 2
   have x3:=blk_cell (hb1) 3
   have xl:=blk_lt (hb1)
   simp only [List.getElem?_toArray,List.getElem?_cons_zero,List.getElem?_cons_succ] at x0 x1 x2 x3
   have HX1:=Lib.hid hb1
   clear hb1
   go_wp2_with fail
   go_ret
   exact ⟨rfl,HB1.out⟩
  ·go_enter Tryz.func33,Tryz.ntmps33
   go_upto_region 1 with fail
   have hb1:=blk_new w (iO ⟨⟨4,arg,num,t⟩,r⟩)
   have HB1:Hid (Below w.heap.size w (w.alloc (iO ⟨⟨4,arg,num,t⟩,r⟩))):=(Below.refl _ _).alloc (Nat.le_refl _) _
   change Code.wp _ _ _ _ (w.alloc (iO ⟨⟨4,arg,num,t⟩,r⟩))
   generalize w.alloc (iO ⟨⟨4,arg,num,t⟩,r⟩) = w1 at *
   have x0:=blk_cell (hb1) 0
   have x1:=blk_cell (hb1) 1
   have x2:=blk_cell (hb1) 2
   have x3:=blk_cell (hb1) 3
   have xl:=blk_lt (hb1)
   simp only [List.getElem?_toArray,List.getElem?_cons_zero,List.getElem?_cons_succ] at x0 x1 x2 x3
   have HX1:=Lib.hid hb1
   clear hb1
   go_wp2_with fail
   go_ret
   exact ⟨rfl,HB1.out⟩
 rw [if_neg h34] at hf
 by_cases h56:op = 15 ∨ op = 16
 ·rw [if_pos h56,Bool.and_eq_true,decide_eq_true_eq,decide_eq_true_eq] at hf
  simp only at hf
  have d1:decide (arg ≥ 0) = true:=decide_eq_true hf.1
  have d2:decide (arg ≤ (many:Int)) = true:=decide_eq_true hf.2
  rcases h56 with rfl | rfl
  ·go_enter Tryz.func33,Tryz.ntmps33
   go_upto_region 1 with fail
   have hb1:=blk_new w (iO ⟨⟨15,arg,num,t⟩,r⟩)
   have HB1:Hid (Below w.heap.size w (w.alloc (iO ⟨⟨15,arg,num,t⟩,r⟩))):=(Below.refl _ _).alloc (Nat.le_refl _) _
   change Code.wp _ _ _ _ (w.alloc (iO ⟨⟨15,arg,num,t⟩,r⟩))
   generalize w.alloc (iO ⟨⟨15,arg,num,t⟩,r⟩) = w1 at *
   have x0:=blk_cell (hb1) 0
   have x1:=blk_cell (hb1) 1
   have x2:=blk_cell (hb1) 2
   have x3:=blk_cell (hb1) 3
   have xl:=blk_lt (hb1)
   simp only [List.getElem?_toArray,List.getElem?_cons_zero,List.getElem?_cons_succ] at x0 x1 x2 x3
   have HX1:=Lib.hid hb1
   clear hb1
   go_wp2_with fail
   go_ret
   exact ⟨rfl,HB1.out⟩
  ·go_enter Tryz.func33,Tryz.ntmps33
   go_upto_region 1 with fail
   have hb1:=blk_new w (iO ⟨⟨16,arg,num,t⟩,r⟩)
   have HB1:Hid (Below w.heap.size w (w.alloc (iO ⟨⟨16,arg,num,t⟩,r⟩))):=(Below.refl _ _).alloc (Nat.le_refl _) _
   change Code.wp _ _ _ _ (w.alloc (iO ⟨⟨16,arg,num,t⟩,r⟩))
   generalize w.alloc (iO ⟨⟨16,arg,num,t⟩,r⟩) = w1 at *
   have x0:=blk_cell (hb1) 0
   have x1:=blk_cell (hb1) 1
   have x2:=blk_cell (hb1) 2
   have x3:=blk_cell (hb1) 3
   have xl:=blk_lt (hb1)
   simp only [List.getElem?_toArray,List.getElem?_cons_zero,List.getElem?_cons_succ] at x0 x1 x2 x3
   have HX1:=Lib.hid hb1
   clear hb1
   go_wp2_with fail
   go_ret
   exact ⟨rfl,HB1.out⟩
 rw [if_neg h56] at hf
 by_cases h17:op = 17
 ·subst h17
  rw [if_pos rfl] at hf
  simp only at hf
  cases hN:argN t with
  | none=>rw [hN] at hf;cases hf
  | some q =>
   rw [hN] at hf
   have hq:q = arg:=eq_of_beq hf
   subst hq
   have HA:=Lib.hid (fun W=>Args_any t q W hN)
   have hqq:(q == q) = true:=beq_iff_eq.2 rfl
   have hob:∀ (W W':World),W.heap[w.heap.size]? = some (iO ⟨⟨17,q,num,t⟩,r⟩) → Below W.heap.size W W' → W'.cell? ⟨w.heap.size,1,none⟩ = some (.int .i64 q) ∧ w.heap.size < W'.heap.size:=fun W W' h hb=>⟨blk_cell (blk_below h hb) 1,blk_lt (blk_below h hb)⟩
   have HOB:=Lib.hid hob
   clear hob
   obtain ⟨arg,harg⟩:∃ arg,arg = q:=⟨_,rfl⟩
   subst harg
   go_enter Tryz.func33,Tryz.ntmps33
   go_upto_region 1 with fail
   have hb1:=blk_new w (iO ⟨⟨17,arg,num,t⟩,r⟩)
   have HB1:Hid (Below w.heap.size w (w.alloc (iO ⟨⟨17,arg,num,t⟩,r⟩))):=(Below.refl _ _).alloc (Nat.le_refl _) _
   change Code.wp _ _ _ _ (w.alloc (iO ⟨⟨17,arg,num,t⟩,r⟩))
   generalize w.alloc (iO ⟨⟨17,arg,num,t⟩,r⟩) = w1 at *
   have x0:=blk_cell (hb1) 0
   have x1:=blk_cell (hb1) 1
   have x2:=blk_cell (hb1) 2
   have x3:=blk_cell (hb1) 3
   have xl:=blk_lt (hb1)
   simp only [List.getElem?_toArray,List.getElem?_cons_zero,List.getElem?_cons_succ] at x0 x1 x2 x3
   have HX1:=Lib.hid hb1
   clear hb1
   go_wp2_with (go_at_call 56;refine (HA.out _).mono ?_;rintro e w5 ⟨rfl,hb5⟩;obtain ⟨y1,yl⟩:=HOB.out _ _ HX1.out hb5;have HB5:=Lib.hid (HB1.out.trans (hb5.mono HB1.out.size));clear hb5)
   go_ret
   exact ⟨rfl,HB5.out⟩
 rw [if_neg h17,Bool.and_eq_true,decide_eq_true_eq,decide_eq_true_eq] at hf
 simp only at hf
 have d1:decide (op ≥ 0) = true:=decide_eq_true hf.1
 have d2:decide (op ≤ 19) = true:=decide_eq_true hf.2
 have b3:(op == 3) = false:=beq_eq_false_iff_ne.2 (by omega)
 have b4:(op == 4) = false:=beq_eq_false_iff_ne.2 (by omega)
 have b15:(op == 15) = false:=beq_eq_false_iff_ne.2 (by omega)
 have b16:(op == 16) = false:=beq_eq_false_iff_ne.2 (by omega)
 have b17:(op == 17) = false:=beq_eq_false_iff_ne.2 (by omega)
 go_enter Tryz.func33,Tryz.ntmps33
 go_upto_region 1 with fail
 have hb1:=blk_new w (iO ⟨⟨op,arg,num,t⟩,r⟩)
 have HB1:Hid (Below w.heap.size w (w.alloc (iO ⟨⟨op,arg,num,t⟩,r⟩))):=(Below.refl _ _).alloc (Nat.le_refl _) _
 change Code.wp _ _ _ _ (w.alloc (iO ⟨⟨op,arg,num,t⟩,r⟩))
 generalize w.alloc (iO ⟨⟨op,arg,num,t⟩,r⟩) = w1 at *
 have x0:=blk_cell (hb1) 0
 have x1:=blk_cell (hb1) 1
 have x2:=blk_cell (hb1) 2
 have x3:=blk_cell (hb1) 3
 have xl:=blk_lt (hb1)
 simp only [List.getElem?_toArray,List.getElem?_cons_zero,List.getElem?_cons_succ] at x0 x1 x2 x3
 have HX1:=Lib.hid hb1
 clear hb1
 go_wp2_with fail
 go_ret
 exact ⟨rfl,HB1.out⟩
theorem New1_ok (bc:Nat) (a:Option Addr) (n c:Nat) (x:Ins) (r:Nat) (w:World) (hbc:w.cell? ⟨bc,0,none⟩ = some (.slice a n c)) (hl:bc < w.heap.size) (hf:fairM x n = true) :
  Calls Tryz.prog 32 #[iV ⟨x,r⟩,.pointer (some ⟨bc,0,none⟩)] w fun e w'=>e = .returned (.bool false) ∧ Below w.heap.size w w':=by
 have HF:=Lib.hid (fun W=>fair_ok x r n W hf)
 have HB1:Hid (Below w.heap.size w (w.alloc (iO ⟨x,r⟩))):=(Below.refl _ _).alloc (Nat.le_refl _) _
 clear hf
 go_enter Tryz.func32,Tryz.ntmps32
 go_wp2_with (go_at_call 33;refine (HF.out _).mono ?_;rintro e w5 ⟨rfl,hb5⟩;have HB5:=Lib.hid (HB1.out.trans (hb5.mono HB1.out.size));clear hb5)
 go_ret
 exact ⟨rfl,HB5.out⟩
end Go.Proofs.YtmfpmandkhiknaaGreatDoor.vmm
namespace Go.Proofs.YtmfpmandkhiknaaGreatDoor.vmm
open Go Go.RowKit Ieee
open flt heap
open lex (run_store_float add0)
set_option maxRecDepth 100000
attribute [local go_sem] run_store_float
theorem IRow.below {w w':World} {v:Value} {C:Is} (h:IRow w v C) (hb:Below w.heap.size w w'):IRow w' v C:=h.kept (fun g o hg ho=>blk_below ho hb)
theorem IRow.at {w:World} {a:Option Addr} {n c j:Nat} {x:Ins × Nat} {C:Is} (h:IRow w (.slice a n c) C) (hj:C[j]? = some x):n = C.length ∧ n ≤ c ∧ c ≤ 9223372036854775807 ∧ ∃ g,a = some ⟨g,0,none⟩ ∧ g < w.heap.size ∧ w.cell? ⟨g,j * 4,none⟩ = some (.int .i64 x.1.op) ∧ w.cell? ⟨g,j * 4 + 1,none⟩ = some (.int .i64 x.1.arg) ∧ w.cell? ⟨g,j * 4 + 2,none⟩ = some (.float .f64 x.2) ∧ w.cell? ⟨g,j * 4 + 3,none⟩ = some (.string ⟨x.1.text.toArray⟩):=by
 rcases h.cells with ⟨-,h0⟩ | ⟨g,c',hv,hg,hlc,hcm,hc⟩
 ·rw [h0] at hj;simp at hj
 ·simp only [Value.slice.injEq] at hv
  obtain ⟨rfl,rfl,rfl⟩:=hv
  obtain ⟨e0,e1,e2,e3⟩:=iCs_get C j x hj
  exact ⟨rfl,hlc,hcm,g,rfl,hg,hc _ _ e0,hc _ _ e1,hc _ _ e2,hc _ _ e3⟩
set_option maxHeartbeats 1000000 in
theorem index_ins (v:Value) (C:Is) (bc:Nat) (w:World) (h:IRow w v C) (hl:C.length ≤ 1000000000) (hbc:w.heap[bc]? = some (.cells #[v] 28 (0,0))) (hf:∀ x ∈ C,fairM x.1 C.length = true) :
  Calls Tryz.prog 55 #[v,.func (.func 32) #[] #[.pointer (some ⟨bc,0,none⟩)]] w fun e w'=>e = .returned (.int .i64 (-1)) ∧ Below w.heap.size w w':=by
 have HV:=Lib.hid h
 have HBC:=Lib.hid hbc
 have HF:=Lib.hid hf
 obtain ⟨a,c,rfl⟩:=h.slice
 clear h hf hbc
 go_enter Tryz.func55,Tryz.ntmps55
 go_wp2_with fail
 go_loopg [5,8] C.length (fun kk v5 v8 wr=>∃ i:Nat,v8 = .int .i64 i ∧ i + kk = C.length ∧ Hid (Below w.heap.size w wr))
 case atStart=>exact ⟨0,rfl,by omega,Below.refl _ _⟩
 case round =>
  obtain ⟨i,rfl,hik,HR⟩:=hrel
  by_cases hlt:i < C.length
  ·cases gk with
   | zero=>omega
   | succ gk =>
   obtain ⟨x,hx⟩:∃ x,C[i]? = some x:=⟨_,List.getElem?_eq_getElem hlt⟩
   obtain ⟨-,hn1,hn2,g,rfl,hg,c0,c1,c2,c3⟩:=(HV.out.below HR.out).at hx
   have hI:(i:Int) < (C.length:Int):=by omega
   have hbr:=blk_below HBC.out HR.out
   have hcb:wr.cell? ⟨bc,0,none⟩ = some (.slice (some ⟨g,0,none⟩) C.length c):=blk_cell hbr 0
   obtain ⟨⟨xo,xa,xn,xt⟩,xr⟩:=x
   have HN1:=Lib.hid (New1_ok bc (some ⟨g,0,none⟩) C.length c ⟨xo,xa,xn,xt⟩ xr wr hcb (blk_lt hbr) (HF.out _ (List.mem_of_getElem? hx)))
   simp only at c0 c1 c2 c3
   clear hx hbr hcb
   go_wp2_with (go_at_call 32;refine (HN1.out).mono ?_;rintro e w5 ⟨rfl,hb⟩)
   have HR2:Hid (Below w.heap.size w w5):=HR.out.trans (hb.mono HR.out.size)
   go_roundg gk
   case rel=>exact ⟨i + 1,by go_num,by omega,HR2.out⟩
   case measure=>omega
  ·have hik2:i = C.length:=by omega
   subst hik2
   go_wp2_with fail
   go_ret
   exact ⟨rfl,HR.out⟩
theorem contains_ins (v:Value) (C:Is) (bc:Nat) (w:World) (h:IRow w v C) (hl:C.length ≤ 1000000000) (hbc:w.heap[bc]? = some (.cells #[v] 28 (0,0))) (hf:∀ x ∈ C,fairM x.1 C.length = true) :
  Calls Tryz.prog 31 #[v,.func (.func 32) #[] #[.pointer (some ⟨bc,0,none⟩)]] w fun e w'=>e = .returned (.bool false) ∧ Below w.heap.size w w':=by
 have HI:=Lib.hid (index_ins v C bc w h hl hbc hf)
 clear h hf hbc
 go_enter Tryz.func31,Tryz.ntmps31
 go_wp2_with (go_at_call 55;refine (HI.out).mono ?_;rintro e w5 ⟨rfl,hb⟩)
 go_ret
 exact ⟨rfl,hb⟩
theorem infoI:(Tryz.prog.info? 54).map (fun i=>(i.zero,i.size,i.bytes)) = some (some (.agg #[.int .i64 0,.int .i64 0,.float .f64 0,.string ⟨#[]⟩]),4,40):=by kernel_rfl
theorem iC_one (C:Is):∀ u ∈ iCs C,u.oneCell' = true:=by
 intro u hu
 obtain ⟨x,-,hx⟩:=List.mem_flatMap.1 hu
 simp [iC] at hx
 rcases hx with rfl | rfl | rfl | rfl <;> rfl
theorem iCs_app (C D:Is):iCs (C ++ D) = iCs C ++ iCs D:=by simp [iCs]
theorem app_ins (B:Nat) (v:Value) (C D:Is) (a:Addr) (c:Nat) (w:World) (h:w.ownsRow B 54 4 v C.length (iCs C)) (hg:∀ j u,(iCs D)[j]? = some u → w.cell? (a.add j) = some u) (hB:B ≤ w.heap.size) (hn:C.length ≤ 1000000000) (hm:D.length ≤ 1000000000) :
  ∃ v2 w2,(Builtin.append_ #[28,28] 28 #[v,.slice (some a) D.length c]).run Tryz.prog w = .ok v2 w2 ∧ w2.ownsRow B 54 4 v2 (C ++ D).length (iCs (C ++ D)) ∧ Turned v.ownBlock.toList w w2:=by
 obtain ⟨i0,hi,hz0,hz1,hz2⟩:=info_parts infoI
 obtain ⟨v2,w2,hrun,hown,hgr,_⟩:=run_append_own (P:=Tryz.prog) w B 28 28 54 i0 _ 4 40 Tryz.underlying28 hi hz0 hz1 hz2 rfl (by decide) v C.length _ h a D.length c (iCs D) (iCs_len D) hg (iC_one D) (by unfold maxLen;omega) (by omega) hB
 refine ⟨v2,w2,hrun,?_,⟨hgr.os,hgr.tape,hgr.output,hgr.size,fun b hb hn=>hgr.block b hb (fun e=>hn (by simp [← e]))⟩⟩
 rw [List.length_append,iCs_app]
 exact hown
theorem clone_ins (C:Is) (v:Value) (w:World) (h:IRow w v C) (hv:v = .slice none 0 0 ∨ C ≠ []) (hn:C.length ≤ 1000000000) :
  Calls Tryz.prog 34 #[v] w fun e w'=>∃ v2,e = .returned v2 ∧ w'.ownsRow w.heap.size 54 4 v2 C.length (iCs C) ∧ Below w.heap.size w w':=by
 rcases h.cells with ⟨rfl,rfl⟩ | ⟨g,c,rfl,hg,hlc,hcm,hc⟩
 ·have hq:∀ W:World,(binOp .eql 28 (.slice none 0 0) (.slice none 0 0)).run Tryz.prog W = .ok (.bool true) W:=fun W=>by
   unfold binOp
   simp [run_equal_slice_nil W 28 54 _ _ _ Tryz.underlying28]
  go_enter Tryz.func34,Tryz.ntmps34
  go_wp2_with fail
  go_ret
  exact ⟨_,rfl,World.ownsRow_nil _ _ _ _,Below.refl _ _⟩
 ·have h0:C ≠ []:=by
   rcases hv with e | e
   ·cases e
   ·exact e
  have hb0:Below w.heap.size w (w.alloc (.cells #[] 54 (0,0))):=(Below.refl _ _).alloc (Nat.le_refl _) _
  have hrow:(w.alloc (.cells #[] 54 (0,0))).ownsRow w.heap.size 54 4 (.slice (some ⟨w.heap.size,0,none⟩) 0 0) ([]:Is).length (iCs []):=⟨rfl,.inr ⟨w.heap.size,0,#[],rfl,Nat.le_refl _,blk_new w _,Nat.le_refl _,Nat.zero_le _,rfl,rfl⟩⟩
  obtain ⟨v2,w2,hrun,hr2,ht⟩:=app_ins w.heap.size _ [] C ⟨g,0,none⟩ c _ hrow (fun j u hu=>by
   rw [add0,hb0.cell (p:=⟨g,j,none⟩) hg]
   exact hc j u hu) (by simp) (by simp) hn
  have HR:=Lib.hid hrun
  have HB:Hid (Below w.heap.size w w2):=hb0.trans ⟨ht.os,ht.tape,ht.output,ht.size,fun k hk=>ht.block k (Nat.lt_of_lt_of_le hk hb0.size) (by simp [Value.ownBlock];omega)⟩
  have H2:=Lib.hid hr2
  have hq:∀ W:World,(binOp .eql 28 (.slice (some ⟨g,0,none⟩) C.length c) (.slice none 0 0)).run Tryz.prog W = .ok (.bool false) W:=fun W=>by
   unfold binOp
   simp [run_equal_slice_nil W 28 54 _ _ _ Tryz.underlying28]
  clear hrun ht hr2 hrow hb0 hc h hv
  go_enter Tryz.func34,Tryz.ntmps34
  go_wp2_with (at_builtin;refine reg.wpList_append rfl rfl rfl rfl rfl HR.out ?_)
  go_ret
  exact ⟨_,rfl,H2.out,HB.out⟩
theorem own_zero {w:World} {B:Nat} {v:Value} {C:Is} (h:w.ownsRow B 54 4 v C.length (iCs C)):IRow w v C:=by
 obtain ⟨hl,h1 | ⟨g,c,cur,hv,h2,h3⟩⟩:=h
 ·exact ⟨hl,.inl h1⟩
 ·exact ⟨hl,.inr ⟨g,c,cur,hv,Nat.zero_le _,h3⟩⟩
theorem zero79:Tryz.zeroCells79 = (mRow (newM [] 0) (.slice none 0 0) (.slice none 0 0) (List.replicate 64 (zeroV,0))).toArray:=by kernel_rfl
theorem New_bad (f:Int) (w:World) (hf:f < 0):Calls Tryz.prog 12 #[.slice none 0 0,.int .i64 f] w fun e w'=>e = .returned (.tuple #[.pointer none,.int .i64 2200]) ∧ Below w.heap.size w w':=by
 have d1:decide (f < 0) = true:=decide_eq_true hf
 have HB:Hid (Below w.heap.size w (w.alloc (.cells #[.slice none 0 0] 28 (0,0)))):=(Below.refl _ _).alloc (Nat.le_refl _) _
 go_enter Tryz.func12,Tryz.ntmps12
 go_wp2_with fail
 go_ret2
 exact ⟨rfl,HB.out⟩
theorem New_any (v:Value) (C:Is) (f:Nat) (w:World) (h:IRow w v C) (hv:v = .slice none 0 0 ∨ C ≠ []) (hl:C.length ≤ 1000000000) (hf:∀ x ∈ C,fairM x.1 C.length = true) (hok:IsOk C) (hfu:f ≤ 20000) :
  Calls Tryz.prog 12 #[v,.int .i64 f] w fun e w'=>∃ p cv,e = .returned (.tuple #[.pointer (some ⟨p,0,none⟩),.int .i64 0]) ∧ MAt w' p (newM (C.map (·.1)) f) cv (.slice none 0 0) C ∧ w.heap.size ≤ p ∧ (∀ g ∈ cv.ownBlock.toList,w.heap.size ≤ g) ∧ Below w.heap.size w w':=by
 obtain ⟨a,c,rfl⟩:=h.slice
 have d1:decide ((f:Int) < 0) = false:=decide_eq_false (by omega)
 have d2:decide ((f:Int) > 20000) = false:=decide_eq_false (by omega)
 have hmf:∀ (fn:Fn) (first cap:Array Value) (w:World),(Instr.makeFunc fn first cap).run Tryz.prog w = .ok (.func fn first cap) w:=fun _ _ _ _=>rfl
 have HB:Hid (Below w.heap.size w (w.alloc (.cells #[.slice a C.length c] 28 (0,0)))):=(Below.refl _ _).alloc (Nat.le_refl _) _
 have hn:=blk_new w (.cells #[.slice a C.length c] 28 (0,0))
 have HC:=Lib.hid (contains_ins (.slice a C.length c) C w.heap.size (w.alloc (.cells #[.slice a C.length c] 28 (0,0))) (h.below HB.out) hl hn hf)
 have HR:=Lib.hid h
 have HN:=Lib.hid hn
 go_enter Tryz.func12,Tryz.ntmps12
 go_upto_region 1 with fail
 change Code.wp _ _ _ _ (w.alloc (.cells #[.slice a C.length c] 28 (0,0)))
 generalize w.alloc (.cells #[.slice a C.length c] 28 (0,0)) = w1 at *
 have q0:w1.cell? ⟨w.heap.size,0,none⟩ = some (.slice a C.length c):=blk_cell hn 0
 have ql:=blk_lt hn
 clear hn
 go_upto_region 3 with (go_at_call 31;refine (HC.out).mono ?_;rintro e w2 ⟨rfl,hb⟩)
 have HB2:Hid (Below w.heap.size w w2):=HB.out.trans (hb.mono HB.out.size)
 have hn2:=blk_below HN.out hb
 have q2:w2.cell? ⟨w.heap.size,0,none⟩ = some (.slice a C.length c):=blk_cell hn2 0
 have ql2:=blk_lt hn2
 have HCL:=Lib.hid (clone_ins C (.slice a C.length c) w2 (HR.out.below HB2.out) hv hl)
 clear hb hn2 q0 ql HC
 go_wp2_with (go_at_call 34;refine (HCL.out).mono ?_;rintro e w3 ⟨v3,rfl,hr3,hb3⟩;obtain ⟨a3,c3,rfl⟩:=(own_zero hr3).slice;have HR3:=Lib.hid hr3;have HB3:=Lib.hid hb3;clear hr3 hb3)
 have hz:((Tryz.zeroCells79.setIfInBounds 0 (.slice a3 C.length c3)).setIfInBounds 2 (.int .i64 f)) = (mRow (newM (C.map (·.1)) f) (.slice a3 C.length c3) (.slice none 0 0) (List.replicate 64 (zeroV,0))).toArray:=by
  rw [zero79,List.setIfInBounds_toArray,List.setIfInBounds_toArray]
  rfl
 go_ret2
 refine ⟨w3.heap.size,.slice a3 C.length c3,rfl,⟨List.replicate 64 (zeroV,0),[],⟨?_,List.length_replicate,?_,?_,?_,VRow.nil _ _,by simp,?_,rfl,hok⟩,fun _=>rfl,?_⟩,?_,?_,?_⟩
 ·rw [← hz];exact blk_new w3 _
 ·rw [List.map_replicate];rfl
 ·intro x hx
  rw [List.eq_of_mem_replicate hx]
  exact num0 (t := [])
 ·intro x hx;cases hx
 ·exact (own_zero HR3.out).kept (fun g o hg ho=>blk_old ho _)
 ·refine ⟨Int.le_refl _,by show (0:Int) ≤ ((C.map (·.1)).length:Int);omega,by show (C.map (·.1)).length ≤ _;rw [List.length_map];omega,by show (0:Int) ≤ f;omega,Int.le_refl _,by show (0:Int) + f ≤ _;omega,?_,List.length_replicate,(fun x hx=>nomatch hx),?_⟩
  ·intro i hi
   obtain ⟨x,hx,rfl⟩:=List.mem_map.1 hi
   show fairM x.1 (C.map (·.1)).length = true
   rw [List.length_map]
   exact hf x hx
  ·intro x hx
   rw [List.eq_of_mem_replicate hx]
   decide
 ·exact Nat.le_trans HB2.out.size HB3.out.size
 ·intro g hg
  exact Nat.le_trans HB2.out.size (World.ownsRow.lt HR3.out g (by simpa using hg)).1
 ·exact (HB2.out.trans (HB3.out.mono HB2.out.size)).alloc (Nat.le_trans HB2.out.size HB3.out.size) _
end Go.Proofs.YtmfpmandkhiknaaGreatDoor.vmm
