/-
  Proved: the document's maker of code lays a statement. Conditions: as each theorem says.
-/
import Derived.Test.YtmfpmandkhiknaaGreatDoorPw39
set_option linter.unusedVariables false
set_option linter.unusedSimpArgs false
namespace Go.Proofs.YtmfpmandkhiknaaGreatDoor.mkr
open Go Go.RowKit
open heap vmm mapi
open par (Nd KV ndV ndO wt wtL)
open chk (Nm)
open lex (run_store_float add0)
set_option maxRecDepth 100000
attribute [local go_sem] run_store_float
theorem gro_fin (k:Int) (t:Nm) (n many:Nat) (m:MS):Gro m (finE k t n many m):=by
 unfold finE
 split
 ·exact gro_put _ _
 split
 ·exact gro_put _ _
 split
 ·exact (gro_flaw _ _).trans (gro_put _ _)
 split
 ·exact (gro_flaw _ _).trans (gro_put _ _)
 split
 ·exact (gro_flaw _ _).trans (gro_put _ _)
 ·exact (gro_flaw _ _).trans (gro_put _ _)
mutual
theorem expr_gro:∀ (x:Nd) (m:MS),Gro m (exprC x m)
 | .mk k t n ks a,m=>by
  rw [exprC]
  split
  ·exact (exprs_gro ks m).trans (gro_fin _ _ _ _ _)
  ·exact gro_bad _
theorem exprs_gro:∀ (l:List Nd) (m:MS),Gro m (exprsC l m)
 | [],m=>by rw [exprsC];exact Gro.refl _
 | x :: r,m=>by rw [exprsC];exact (expr_gro x m).trans (exprs_gro r _)
end
mutual
theorem block_gro:∀ (x:Nd) (m:MS),Gro m (blockC x m)
 | .mk k t n ks a,m=>by
  rw [blockC]
  split
  ·exact stmts_gro ks m
  ·exact gro_bad _
theorem stmts_gro:∀ (l:List Nd) (m:MS),Gro m (stmtsC l m)
 | [],m=>by rw [stmtsC];exact Gro.refl _
 | x :: r,m=>by rw [stmtsC];exact (stmt_gro x m).trans (stmts_gro r _)
theorem stmt_gro:∀ (x:Nd) (m:MS),Gro m (stmtC x m)
 | .mk k t n [x] a,m=>by
  rw [stmtC]
  split
  ·exact ((expr_gro x m).trans (gro_setS _ _)).trans (gro_put _ _)
  split
  ·exact (expr_gro x m).trans (gro_put _ _)
  split
  ·exact (expr_gro x m).trans (gro_put _ _)
  ·exact gro_bad _
 | .mk k t n [x,y] a,m=>by
  rw [stmtC]
  split
  ·exact ((((expr_gro x m).trans (gro_put _ _)).trans (block_gro y _)).trans (gro_put _ _)).trans (gro_land _ _)
  ·exact gro_bad _
 | .mk k t n [x,y,z] a,m=>by
  rw [stmtC]
  split
  ·split
   ·exact (((expr_gro x m).trans (gro_put _ _)).trans (block_gro y _)).trans (gro_land _ _)
   ·exact ((((((expr_gro x m).trans (gro_put _ _)).trans (block_gro y _)).trans (gro_put _ _)).trans (gro_land _ _)).trans (block_gro z _)).trans (gro_land _ _)
  ·exact gro_bad _
 | .mk k t n [] a,m=>by rw [stmtC] <;> first | exact gro_bad _ | simp
 | .mk k t n (_ :: _ :: _ :: _ :: _) a,m=>by rw [stmtC] <;> first | exact gro_bad _ | simp
end
def StmtAt (d:Nat):Prop:=∀ (x:Nd) (a:Option Addr) (n:Nat) (S:List Nat) (B q:Nat) (cv sv:Value) (m:MS) (w:World),KV 61 w d x.kids (.slice a x.kids.length n) S → (∀ b ∈ S,b < B) → KA w B q m cv sv → m.code.length + 2 * wt x ≤ 40000000 → m.slots.length + wt x ≤ 40000000 →
 Calls Tryz.prog 84 #[PP q,ndV x (.slice a x.kids.length n)] w (MkP B q cv sv w (stmtC x m) (.tuple #[]))
def BlockAt (d:Nat):Prop:=∀ (x:Nd) (a:Option Addr) (n:Nat) (S:List Nat) (B q:Nat) (cv sv:Value) (m:MS) (w:World),KV 61 w d x.kids (.slice a x.kids.length n) S → (∀ b ∈ S,b < B) → KA w B q m cv sv → m.code.length + 2 * wt x ≤ 40000000 → m.slots.length + wt x ≤ 40000000 →
 Calls Tryz.prog 58 #[PP q,ndV x (.slice a x.kids.length n)] w (MkP B q cv sv w (blockC x m) (.tuple #[]))
set_option maxHeartbeats 8000000 in
theorem block_step {d:Nat} (IH:StmtAt d):BlockAt (d + 1):=by
 intro x a n S B q cv sv m w hk hS hc hlen hsl
 have HK:=Lib.hid hk
 have HS:=Lib.hid hS
 have HC:=Lib.hid hc
 have HI:Hid (XI B q w.heap.size x (.slice a x.kids.length n) w cv sv m (w.alloc (ndO x (.slice a x.kids.length n))) cv sv):=XI.start hc
 have HKW:Hid (∀ (wr:World) (m':MS) (cv' sv':Value),XI B q w.heap.size x (.slice a x.kids.length n) w cv sv m' wr cv' sv' → KV 61 wr (d + 1) x.kids (.slice a x.kids.length n) S):=fun wr m' cv' sv' h=>HK.out.turned h.stp.t (fun b hb hm=>by
  have h1:=HS.out b hb
  have h2:=(HC.out.own b hm).1
  omega)
 have HLN:Hid (∀ (i:Nat) (y:Nd),x.kids[i]? = some y → (stmtsC (x.kids.take i) m).code.length + 2 * wt y ≤ 40000000 ∧ (stmtsC (x.kids.take i) m).slots.length + wt y ≤ 40000000):=fun i y hy=>by
  have h1:=few_stmts (x.kids.take i) m
  have h2:=wt_take x.kids i y hy
  have h3:=wt_kids x
  have:=h1.code
  have:=h1.slots
  omega
 have HEQ:Hid (blockC x m = if x.kind = 8 then stmtsC x.kids m else { m with bad:=true }):=by
  unfold Hid
  cases x
  rw [blockC]
  rfl
 clear hk hS hc hlen hsl
 generalize blockC x m = mF at *
 go_enter Tryz.func58,Tryz.ntmps58
 go_upto_region 1 with fail
 change Code.wp _ _ _ _ (w.alloc (ndO x (.slice a x.kids.length n)))
 generalize w.alloc (ndO x (.slice a x.kids.length n)) = w1 at *
 generalize w.heap.size = b1 at *
 obtain ⟨p0,p1,p2,p3,p4,pl,k0,k2,kf2,kl⟩:=HI.out.cells
 by_cases k8:x.kind = 8
 ·have e1:(x.kind != 8) = false:=by rw [k8];rfl
  have HR:=HEQ.out
  rw [if_pos k8] at HR
  go_wp2_with fail
  go_loopg [4] x.kids.length (fun kk v4 wr=>∃ (i:Nat) (cv2 sv2:Value),i + kk = x.kids.length ∧ v4 = .int .i64 i ∧ Hid (XI B q b1 x (.slice a x.kids.length n) w cv sv (stmtsC (x.kids.take i) m) wr cv2 sv2))
  case atStart=>exact ⟨0,_,_,by omega,rfl,HI.out⟩
  case round =>
   clear HI
   obtain ⟨i,cv2,sv2,hik,rfl,HJ⟩:=hrel
   clear p0 p1 p2 p3 p4 pl k0 k2 kf2 kl
   obtain ⟨p0,p1,p2,p3,p4,pl,k0,k2,kf2,kl⟩:=HJ.out.cells
   by_cases hlt:i < x.kids.length
   ·cases gk with
    | zero=>omega
    | succ gk =>
    have hy:x.kids[i]? = some x.kids[i]:=List.getElem?_eq_getElem hlt
    generalize x.kids[i] = y at hy
    obtain ⟨g1,c1,s1,rfl,-,hg1,hcp1,hcp2,y0,y1,y2,y3,y4,hky,hsub⟩:=(HKW.out _ _ _ _ HJ.out).kid hy
    unfold maxLen at hcp2
    obtain ⟨a2,n2,rfl⟩:=hky.slice
    have HIH:=Lib.hid (IH y a2 n2 s1 B q cv2 sv2 _ wr hky (fun b hb=>HS.out b (hsub b hb)) HJ.out.ka (HLN.out i y hy).1 (HLN.out i y hy).2)
    have HY:Hid (stmtsC (x.kids.take (i + 1)) m = stmtC y (stmtsC (x.kids.take i) m)):=stmts_snoc x.kids i y m hy
    clear hky hsub hy
    go_wp2_with (go_at_call 84;refine HIH.out.mono ?_;rintro e w5 ⟨rfl,cv5,sv5,hck,hcg⟩;have HJ2:=Lib.hid (HJ.out.step hck hcg);clear hck hcg)
    go_roundg gk
    case rel=>exact ⟨i + 1,cv5,sv5,by omega,by go_num,by rw [HY.out];exact HJ2.out⟩
    case measure=>omega
   ·have hik2:i = x.kids.length:=by omega
    subst hik2
    rw [List.take_length] at HJ
    go_wp2_with fail
    go_end0
    exact ⟨rfl,_,_,by rw [HR];exact HJ.out.ka,HJ.out.stp⟩
 ·have e1:(x.kind != 8) = true:=by simp [k8]
  have HR:=HEQ.out
  rw [if_neg k8] at HR
  go_wp2_with fail
  go_end0
  exact ⟨rfl,_,_,by rw [HR];exact HI.out.ka.mark true,HI.out.stp.trans (Stp.of_turned ((Turned.refl _ _).setCell (by simp) _))⟩
set_option maxHeartbeats 8000000 in
theorem stmt_step {d:Nat} (IB:BlockAt d):StmtAt (d + 1):=by
 intro x a n S B q cv sv m w hk hS hc hlen hsl
 obtain ⟨ca,cc,rfl⟩:=hc.code.slice
 have HK:=Lib.hid hk
 have HS:=Lib.hid hS
 have HC:=Lib.hid hc
 have HI:Hid (XI B q w.heap.size x (.slice a x.kids.length n) w (.slice ca m.code.length cc) sv m (w.alloc (ndO x (.slice a x.kids.length n))) (.slice ca m.code.length cc) sv):=XI.start hc
 have HKW:Hid (∀ (wr:World) (m':MS) (cv' sv':Value),XI B q w.heap.size x (.slice a x.kids.length n) w (.slice ca m.code.length cc) sv m' wr cv' sv' → KV 61 wr (d + 1) x.kids (.slice a x.kids.length n) S):=fun wr m' cv' sv' h=>HK.out.turned h.stp.t (fun b hb hm=>by
  have h1:=HS.out b hb
  have h2:=(HC.out.own b hm).1
  omega)
 have HE0:=Lib.hid (fun h=>stmt_bad x m h)
 have HE1:=Lib.hid (fun y (h:x.kids = [y])=>stmt_eq1 h m)
 have HE2:=Lib.hid (fun y z (h:x.kids = [y,z])=>stmt_eq2 h m)
 have HE3:=Lib.hid (fun y z u (h:x.kids = [y,z,u])=>stmt_eq3 h m)
 generalize stmtC x m = mF at *
 have hwt:=wt_kids x
 clear hk hS hc
 go_enter Tryz.func84,Tryz.ntmps84
 go_upto_region 1 with fail
 change Code.wp _ _ _ _ (w.alloc (ndO x (.slice a x.kids.length n)))
 generalize w.alloc (ndO x (.slice a x.kids.length n)) = w1 at *
 generalize w.heap.size = b1 at *
 have hmm := @run_makeMap_plain Tryz.prog
 have HMI:=Lib.hid (MapI.new w1)
 have HBM:Hid (Below w1.heap.size w1 (w1.alloc (.map #[] 0))):=(Below.refl _ _).alloc (Nat.le_refl _) _
 go_upto_region 2 with (refine mapi.wpList_insert_new rfl rfl Tryz.underlying161 Tryz.underlying3 rfl rfl rfl HMI.out (by kernel_rfl) ?_;intro w' hm' ht';clear HMI;have HMI:=Lib.hid hm';have hb':=HBM.out.trans (ht'.below HBM.out.size (by simp));clear HBM;have HBM:=Lib.hid hb';clear hm' ht' hb')
 have HMK:Hid (MapI w' w1.heap.size kidsSL):=mcast HMI.out (by kernel_rfl)
 have hlk:=run_kidsS HMK.out x.kind
 have HI2:=Lib.hid (HI.out.below HBM.out)
 clear HMI HBM HMK HI
 have HI:=HI2
 clear HI2
 generalize w1.heap.size = bm at *
 generalize w' = wr at *
 obtain ⟨p0,p1,p2,p3,p4,pl,k0,k2,kf2,kl⟩:=HI.out.cells
 cases hke:kidsS x.kind with
 | none =>
  have hfit:kidsS x.kind ≠ some x.kids.length:=by rw [hke];exact fun h=>by cases h
  rw [hke] at hlk
  simp only [Option.getD_none,Option.isSome_none] at hlk
  have HR:Hid (mF = { m with bad:=true }):=by unfold Hid;exact HE0.out hfit
  go_wp2_with fail
  go_end0
  exact ⟨rfl,_,_,by rw [HR.out];exact HI.out.ka.mark true,HI.out.stp.trans (Stp.of_turned ((Turned.refl _ _).setCell (by simp) _))⟩
 | some c =>
  rw [hke] at hlk
  simp only [Option.getD_some,Option.isSome_some] at hlk
  by_cases hcn:c = x.kids.length
  ·have e2:((c:Int) != (x.kids.length:Int)) = false:=by simp [hcn]
   have hkd:(x.kind = 9 ∧ x.kids.length = 1) ∨ (x.kind = 12 ∧ x.kids.length = 1) ∨ (x.kind = 13 ∧ x.kids.length = 1) ∨ (x.kind = 11 ∧ x.kids.length = 2) ∨ (x.kind = 10 ∧ x.kids.length = 3):=by
    rw [← hcn]
    unfold kidsS at hke
    split at hke
    ·simp only [Option.some.injEq] at hke;omega
    split at hke
    ·simp only [Option.some.injEq] at hke;omega
    split at hke
    ·simp only [Option.some.injEq] at hke;omega
    ·cases hke
   clear hke hcn
   obtain ⟨y,ys,hxs⟩:∃ y ys,x.kids = y :: ys:=by
    cases h:x.kids with
    | nil=>rw [h] at hkd;simp at hkd
    | cons y ys=>exact ⟨y,ys,rfl⟩
   have hI0:(0:Int) < (x.kids.length:Int):=by rw [hxs];simp
   obtain ⟨g1,cy,sy,rfl,-,hg1,hcp1,hcp2,y0,y1,y2,y3,y4,hkyy,hsuby⟩:=(HKW.out _ _ _ _ HI.out).kid (i:=0) (x:=y) (by rw [hxs];rfl)
   unfold maxLen at hcp2
   obtain ⟨ay,ny,rfl⟩:=hkyy.slice
   simp only [Nat.zero_mul,Nat.zero_add] at y0 y1 y2 y3 y4
   have hwy:wt y ≤ wtL x.kids:=by rw [hxs,wtL];omega
   have hb1:m.code.length + wt y ≤ 50000000 ∧ m.slots.length ≤ 50000000:=by omega
   have HFE:=Lib.hid (few_expr y m)
   have HXS:=Lib.hid hxs
   clear hxs
   go_upto_region 7 with (go_at_call 112;refine (expr_all d y ay ny sy B q _ _ _ _ hkyy (fun b hb=>HS.out b (hsuby b hb)) HI.out.ka hb1.1 hb1.2).mono ?_;rintro e w5 ⟨rfl,cv5,sv5,hka,hst⟩;have HJ5:=Lib.hid (HI.out.step hka hst);clear hka hst)
   clear p0 p1 p2 p3 p4 pl k0 k2 kf2 kl
   obtain ⟨p0,p1,p2,p3,p4,pl,k0,k2,kf2,kl⟩:=HJ5.out.cells
   have hf1:=HFE.out.code
   have hf2:=HFE.out.slots
   clear hlk y0 y1 y2 y3 y4
   rcases hkd with ⟨hkd,hl1⟩ | ⟨hkd,hl1⟩ | ⟨hkd,hl1⟩ | ⟨hkd,hl1⟩ | ⟨hkd,hl1⟩
   ·have HR:Hid (mF = (setS x.text (exprC y m)).put ⟨4,slotOf (setS x.text (exprC y m)).slots x.text,0,[]⟩):=by
     have hys:x.kids = [y]:=by rw [HXS.out] at hl1 ⊢;cases ys with | nil=>rfl | cons _ _=>simp at hl1
     unfold Hid
     rw [HE1.out y hys,if_pos hkd]
    rw [hkd] at p0
    generalize exprC y m = m1 at *
    by_cases hs:slotOf m1.slots x.text < 0
    ·have hd:decide (slotOf m1.slots x.text < 0) = true:=decide_eq_true hs
     have hset:setS x.text m1 = { m1 with slots:=m1.slots ++ [x.text] }:=by unfold setS;rw [if_pos hs]
     rw [hset] at HR
     clear hset hs
     go_upto_region 11 with (go_at_call 113;refine (slot_any B q _ _ _ x.text _ HJ5.out.ka (by omega)).mono ?_;rintro e w6 ⟨rfl,hb⟩;have HJ6:=Lib.hid (HJ5.out.below hb);clear hb)
     clear p0 p1 p2 p3 p4 pl k0 k2 kf2 kl
     obtain ⟨p0,p1,p2,p3,p4,pl,k0,k2,kf2,kl⟩:=HJ6.out.cells
     obtain ⟨a2,n2,W4,hrun,hobj,hka,hst⟩:=(HJ6.out.drew.below ((Below.refl _ _).alloc (Nat.le_refl _) (.cells #[sV x.text] 9 (0,0)))).ka.app (hb:=w6.heap.size) (t:=x.text) (blk_new w6.drew _) (by omega)
     have HRUN:=Lib.hid hrun
     have HJ7:=Lib.hid ((HJ6.out.drew.below ((Below.refl _ _).alloc (Nat.le_refl _) (.cells #[sV x.text] 9 (0,0)))).step hka hst)
     have n1:=blk_cell hobj 1
     have nf1:=blk_free hobj 1
     have nl:=blk_lt hobj
     have k1:=blk_cell HJ6.out.ka.obj 1
     simp only [List.getElem?_toArray,List.getElem?_cons_zero,List.getElem?_cons_succ] at n1 k1
     clear hrun hobj hka hst
     go_region_law
      (first
       | (refine Code.step_append_run (by rfl) (by rfl) (by rfl) (by rfl) (by rfl) HRUN.out ?_)
       | (refine par.step_append_run (by rfl) (by rfl) (by rfl) (by rfl) (by rfl) HRUN.out ?_)
       | (trace_state;fail))
     all_goals
      clear n1 nf1 nl k1 HRUN
      generalize (W4.setCell ⟨q,1,none⟩ (.slice a2 (m1.slots.length + 1) n2)) = w7 at *
      clear p0 p1 p2 p3 p4 pl k0 k2 kf2 kl
      obtain ⟨p0,p1,p2,p3,p4,pl,k0,k2,kf2,kl⟩:=HJ7.out.cells
      have hsl2:(m1.slots ++ [x.text]).length ≤ 100000000:=by simp;omega
      have HSL:=Lib.hid (slot_any B q ⟨m1.code,m1.slots ++ [x.text],m1.bad⟩ _ _ x.text w7 HJ7.out.ka hsl2)
      simp only at HSL
      generalize slotOf (m1.slots ++ [x.text]) x.text = ks2 at *
      go_wp2_with (first | (go_at_call 113;refine (HSL.out).mono ?_;rintro e w8 ⟨rfl,hb⟩;have HJ8:=Lib.hid (HJ7.out.below hb);clear hb) | (go_at_call 59;refine (put_any B q _ _ _ ⟨4,ks2,0,[]⟩ _ HJ8.out.ka HJ8.out.size (by simp only;omega)).mono ?_;rintro e w9 ⟨rfl,cv9,sv9,hka,hst⟩;have HJ9:=Lib.hid (HJ8.out.step hka hst);clear hka hst))
      go_end0
      exact ⟨rfl,_,_,by rw [HR.out];exact HJ9.out.ka,HJ9.out.stp⟩
    ·have hd:decide (slotOf m1.slots x.text < 0) = false:=decide_eq_false hs
     have hset:setS x.text m1 = m1:=by unfold setS;rw [if_neg hs]
     rw [hset] at HR
     clear hset hs
     go_upto_region 12 with (go_at_call 113;refine (slot_any B q _ _ _ x.text _ HJ5.out.ka (by omega)).mono ?_;rintro e w6 ⟨rfl,hb⟩;have HJ6:=Lib.hid (HJ5.out.below hb);clear hb)
     clear p0 p1 p2 p3 p4 pl k0 k2 kf2 kl
     obtain ⟨p0,p1,p2,p3,p4,pl,k0,k2,kf2,kl⟩:=HJ6.out.cells
     go_wp2_with (first | (go_at_call 113;refine (slot_any B q _ _ _ x.text _ HJ6.out.ka (by omega)).mono ?_;rintro e w8 ⟨rfl,hb⟩;have HJ8:=Lib.hid (HJ6.out.below hb);clear hb) | (go_at_call 59;refine (put_any B q _ _ _ ⟨4,slotOf m1.slots x.text,0,[]⟩ _ HJ8.out.ka HJ8.out.size (by omega)).mono ?_;rintro e w9 ⟨rfl,cv9,sv9,hka,hst⟩;have HJ9:=Lib.hid (HJ8.out.step hka hst);clear hka hst))
     go_end0
     exact ⟨rfl,_,_,by rw [HR.out];exact HJ9.out.ka,HJ9.out.stp⟩
   ·have HR:Hid (mF = (exprC y m).put ⟨18,0,0,[]⟩):=by
     have hys:x.kids = [y]:=by rw [HXS.out] at hl1 ⊢;cases ys with | nil=>rfl | cons _ _=>simp at hl1
     unfold Hid
     rw [HE1.out y hys,if_neg (by omega),if_pos hkd]
    rw [hkd] at p0
    go_wp2_with (go_at_call 59;refine (put_any B q _ _ _ ⟨18,0,0,[]⟩ _ HJ5.out.ka HJ5.out.size (by omega)).mono ?_;rintro e w6 ⟨rfl,cv6,sv6,hka,hst⟩;have HJ6:=Lib.hid (HJ5.out.step hka hst);clear hka hst)
    go_end0
    exact ⟨rfl,_,_,by rw [HR.out];exact HJ6.out.ka,HJ6.out.stp⟩
   ·have HR:Hid (mF = (exprC y m).put ⟨19,0,0,[]⟩):=by
     have hys:x.kids = [y]:=by rw [HXS.out] at hl1 ⊢;cases ys with | nil=>rfl | cons _ _=>simp at hl1
     unfold Hid
     rw [HE1.out y hys,if_neg (by omega),if_neg (by omega),if_pos hkd]
    rw [hkd] at p0
    go_wp2_with (go_at_call 59;refine (put_any B q _ _ _ ⟨19,0,0,[]⟩ _ HJ5.out.ka HJ5.out.size (by omega)).mono ?_;rintro e w6 ⟨rfl,cv6,sv6,hka,hst⟩;have HJ6:=Lib.hid (HJ5.out.step hka hst);clear hka hst)
    go_end0
    exact ⟨rfl,_,_,by rw [HR.out];exact HJ6.out.ka,HJ6.out.stp⟩
   ·obtain ⟨z,hys⟩:∃ z,x.kids = [y,z]:=by
     rw [HXS.out] at hl1 ⊢
     match ys,hl1 with
     | [z],_=>exact ⟨z,rfl⟩
     | [],h=>simp at h
     | _ :: _ :: _,h=>simp at h
    have HR:Hid (mF = ((blockC z ((exprC y m).put ⟨16,0,0,[]⟩)).put ⟨15,m.code.length,0,[]⟩).land (exprC y m).code.length):=by
     unfold Hid
     rw [HE2.out y z hys,if_pos hkd]
    have hz:x.kids[1]? = some z:=by rw [hys];rfl
    have hwz:wt y + wt z ≤ wtL x.kids:=by rw [hys];simp [wtL]
    have HFB:=Lib.hid ((few_block z ((exprC y m).put ⟨16,0,0,[]⟩)))
    clear hys
    have hI1:(1:Int) < (x.kids.length:Int):=by omega
    rw [hkd] at p0
    generalize exprC y m = m1 at *
    go_upto_region 24 with (go_at_call 59;refine (put_any B q _ _ _ ⟨16,0,0,[]⟩ _ HJ5.out.ka HJ5.out.size (by omega)).mono ?_;rintro e w6 ⟨rfl,cv6,sv6,hka,hst⟩;have HJ6:=Lib.hid (HJ5.out.step hka hst);clear hka hst)
    clear p0 p1 p2 p3 p4 pl k0 k2 kf2 kl
    obtain ⟨p0,p1,p2,p3,p4,pl,k0,k2,kf2,kl⟩:=HJ6.out.cells
    obtain ⟨cz,sz,z0,z1,z2,z3,z4,hkyz,hsubz⟩:=kid2 (HKW.out _ _ _ _ HJ6.out) (i:=1) hz
    obtain ⟨az,nz,rfl⟩:=hkyz.slice
    simp only [Nat.zero_mul,Nat.one_mul,Nat.zero_add,Nat.reduceMul,Nat.reduceAdd] at z0 z1 z2 z3 z4
    have hfb1:=HFB.out.code
    have hfb2:=HFB.out.slots
    have hpl:(m1.put ⟨16,0,0,[]⟩).code.length = m1.code.length + 1:=by simp [MS.put]
    have hps:(m1.put ⟨16,0,0,[]⟩).slots = m1.slots:=rfl
    go_upto_region 25 with (go_at_call 58;refine (IB z az nz sz B q _ _ _ _ hkyz (fun b hb=>HS.out b (hsubz b hb)) HJ6.out.ka (by omega) (by rw [hps];omega)).mono ?_;rintro e w7 ⟨rfl,cv7,sv7,hka,hst⟩;have HJ7:=Lib.hid (HJ6.out.step hka hst);clear hka hst)
    clear z0 z1 z2 z3 z4
    clear p0 p1 p2 p3 p4 pl k0 k2 kf2 kl
    obtain ⟨p0,p1,p2,p3,p4,pl,k0,k2,kf2,kl⟩:=HJ7.out.cells
    have hgr:=((block_gro z (m1.put ⟨16,0,0,[]⟩)).len)
    generalize blockC z (m1.put ⟨16,0,0,[]⟩) = m2 at *
    go_upto_region 26 with (go_at_call 59;refine (put_any B q _ _ _ ⟨15,m.code.length,0,[]⟩ _ HJ7.out.ka HJ7.out.size (by omega)).mono ?_;rintro e w8 ⟨rfl,cv8,sv8,hka,hst⟩;have HJ8:=Lib.hid (HJ7.out.step hka hst);clear hka hst)
    have hpl2:(m2.put ⟨15,m.code.length,0,[]⟩).code.length = m2.code.length + 1:=by simp [MS.put]
    have hkm:m1.code.length < (m2.put ⟨15,m.code.length,0,[]⟩).code.length:=by omega
    clear hpl2
    generalize m2.put ⟨15,m.code.length,0,[]⟩ = m3 at *
    obtain ⟨gL,cL,uL,hcvL,l1L,l2L,l3L,l4L,l5L⟩:=HJ8.out.ka.spot hkm
    subst hcvL
    clear p0 p1 p2 p3 p4 pl k0 k2 kf2 kl
    obtain ⟨p0,p1,p2,p3,p4,pl,k0,k2,kf2,kl⟩:=HJ8.out.cells
    have hkmj:((m1.code.length:Nat):Int) < (m3.code.length:Int):=by omega
    go_region_law (go_simp;fail)
    all_goals
     go_wp2_with fail
     go_end0
     exact ⟨rfl,_,_,by rw [HR.out];exact (HJ8.out.drew.land hkm).ka,(HJ8.out.drew.land hkm).stp⟩
   ·obtain ⟨z,u,hys⟩:∃ z u,x.kids = [y,z,u]:=by
     rw [HXS.out] at hl1 ⊢
     match ys,hl1 with
     | [z,u],_=>exact ⟨z,u,rfl⟩
     | [],h=>simp at h
     | [_],h=>simp at h
     | _ :: _ :: _ :: _,h=>simp at h
    have HR:=Lib.hid (HE3.out y z u hys)
    rw [if_pos hkd] at HR
    have hz:x.kids[1]? = some z:=by rw [hys];rfl
    have hu:x.kids[2]? = some u:=by rw [hys];rfl
    have hwz:wt y + wt z + wt u ≤ wtL x.kids:=by rw [hys];simp [wtL];omega
    have HFB:=Lib.hid ((few_block z ((exprC y m).put ⟨16,0,0,[]⟩)))
    clear hys
    have hI1:(1:Int) < (x.kids.length:Int):=by omega
    have hI2:(2:Int) < (x.kids.length:Int):=by omega
    rw [hkd] at p0
    generalize exprC y m = m1 at *
    go_upto_region 15 with (go_at_call 59;refine (put_any B q _ _ _ ⟨16,0,0,[]⟩ _ HJ5.out.ka HJ5.out.size (by omega)).mono ?_;rintro e w6 ⟨rfl,cv6,sv6,hka,hst⟩;have HJ6:=Lib.hid (HJ5.out.step hka hst);clear hka hst)
    clear p0 p1 p2 p3 p4 pl k0 k2 kf2 kl
    obtain ⟨p0,p1,p2,p3,p4,pl,k0,k2,kf2,kl⟩:=HJ6.out.cells
    obtain ⟨cz,sz,z0,z1,z2,z3,z4,hkyz,hsubz⟩:=kid2 (HKW.out _ _ _ _ HJ6.out) (i:=1) hz
    obtain ⟨az,nz,rfl⟩:=hkyz.slice
    simp only [Nat.zero_mul,Nat.one_mul,Nat.zero_add,Nat.reduceMul,Nat.reduceAdd] at z0 z1 z2 z3 z4
    have hfb1:=HFB.out.code
    have hfb2:=HFB.out.slots
    have hpl:(m1.put ⟨16,0,0,[]⟩).code.length = m1.code.length + 1:=by simp [MS.put]
    have hps:(m1.put ⟨16,0,0,[]⟩).slots = m1.slots:=rfl
    rw [hps] at hfb2
    go_upto_region 16 with (go_at_call 58;refine (IB z az nz sz B q _ _ _ _ hkyz (fun b hb=>HS.out b (hsubz b hb)) HJ6.out.ka (by omega) (by rw [hps];omega)).mono ?_;rintro e w7 ⟨rfl,cv7,sv7,hka,hst⟩;have HJ7:=Lib.hid (HJ6.out.step hka hst);clear hka hst)
    clear z0 z1 z2 z3 z4
    clear p0 p1 p2 p3 p4 pl k0 k2 kf2 kl
    obtain ⟨p0,p1,p2,p3,p4,pl,k0,k2,kf2,kl⟩:=HJ7.out.cells
    obtain ⟨cu,su,u0,u1,u2,u3,u4,hkyu,hsubu⟩:=kid2 (HKW.out _ _ _ _ HJ7.out) (i:=2) hu
    obtain ⟨au,nu,rfl⟩:=hkyu.slice
    simp only [Nat.zero_mul,Nat.one_mul,Nat.zero_add,Nat.reduceMul,Nat.reduceAdd] at u0 u1 u2 u3 u4
    have hgr:=((block_gro z (m1.put ⟨16,0,0,[]⟩)).len)
    generalize blockC z (m1.put ⟨16,0,0,[]⟩) = m2 at *
    have hkm:m1.code.length < m2.code.length:=by omega
    by_cases hno:u.kind = 0 ∧ u.kids = []
    ·rw [if_pos hno] at HR
     have hul:u.kids.length = 0:=by rw [hno.2];rfl
     have e5:(u.kind == 0) = true:=by rw [hno.1];rfl
     have e6:((u.kids.length:Int) == 0) = true:=by rw [hul];rfl
     clear hno hul
     go_upto_region 17 with fail
     obtain ⟨gL,cL,uL,hcvL,l1L,l2L,l3L,l4L,l5L⟩:=HJ7.out.ka.spot hkm
     subst hcvL
     clear p0 p1 p2 p3 p4 pl k0 k2 kf2 kl
     obtain ⟨p0,p1,p2,p3,p4,pl,k0,k2,kf2,kl⟩:=HJ7.out.cells
     have hkmj:((m1.code.length:Nat):Int) < (m2.code.length:Int):=by omega
     go_region_law (go_simp;fail)
     all_goals
      go_wp2_with fail
      go_end0
      exact ⟨rfl,_,_,by rw [HR.out];exact (HJ7.out.drew.land hkm).ka,(HJ7.out.drew.land hkm).stp⟩
    ·rw [if_neg hno] at HR
     have hup:∀ (Q:Prop),((u.kind == 0) = false → Q) → ((u.kind == 0) = true → ((u.kids.length:Int) == 0) = false → Q) → Q:=fun Q h1 h2=>by
      by_cases hk0:u.kind = 0
      ·refine h2 (by rw [hk0];rfl) (beq_eq_false_iff_ne.2 (fun e=>hno ⟨hk0,?_⟩))
       exact List.length_eq_zero_iff.1 (by omega)
      ·exact h1 (beq_eq_false_iff_ne.2 hk0)
     clear hno
     refine hup _ (fun e5 => ?_) (fun e5 e6 => ?_)
     ·clear hup
      go_upto_region 19 with (go_at_call 59;refine (put_any B q _ _ _ ⟨15,0,0,[]⟩ _ HJ7.out.ka HJ7.out.size (by omega)).mono ?_;rintro e w8 ⟨rfl,cv8,sv8,hka,hst⟩;have HJ8:=Lib.hid (HJ7.out.step hka hst);clear hka hst)
      clear u0 u1 u2 u3 u4
      have hpl2:(m2.put ⟨15,0,0,[]⟩).code.length = m2.code.length + 1:=by simp [MS.put]
      have hps2:(m2.put ⟨15,0,0,[]⟩).slots = m2.slots:=rfl
      have hkm:m1.code.length < (m2.put ⟨15,0,0,[]⟩).code.length:=by omega
      have hm3l:(m2.put ⟨15,0,0,[]⟩).code.length ≤ m2.code.length + 1 ∧ m2.code.length + 1 ≤ (m2.put ⟨15,0,0,[]⟩).code.length ∧ (m2.put ⟨15,0,0,[]⟩).slots.length ≤ m2.slots.length:=by rw [hps2];omega
      clear hpl2 hps2
      generalize m2.put ⟨15,0,0,[]⟩ = m3 at *
      obtain ⟨gL,cL,uL,hcvL,l1L,l2L,l3L,l4L,l5L⟩:=HJ8.out.ka.spot hkm
      subst hcvL
      clear p0 p1 p2 p3 p4 pl k0 k2 kf2 kl
      obtain ⟨p0,p1,p2,p3,p4,pl,k0,k2,kf2,kl⟩:=HJ8.out.cells
      have hkmj:((m1.code.length:Nat):Int) < (m3.code.length:Int):=by omega
      go_region_law (go_simp;fail)
      all_goals
       have HJ9:=Lib.hid (HJ8.out.land hkm).drew
       clear l1L l2L l3L l4L l5L hkmj HJ8
       have hm4l:(m3.land m1.code.length).code.length = m3.code.length:=by simp [MS.land,setArg]
       have hm4s:(m3.land m1.code.length).slots.length = m3.slots.length:=rfl
       generalize (w8.setCell ⟨gL,m1.code.length * 4 + 1,none⟩ (.int .i64 m3.code.length)).drew = w9 at *
       generalize m3.land m1.code.length = m4 at *
       have hm4:m4.code.length ≤ m3.code.length ∧ m3.code.length ≤ m4.code.length ∧ m4.slots.length ≤ m3.slots.length:=by omega
       clear hm4l hm4s
       clear p0 p1 p2 p3 p4 pl k0 k2 kf2 kl
       obtain ⟨p0,p1,p2,p3,p4,pl,k0,k2,kf2,kl⟩:=HJ9.out.cells
       obtain ⟨cr,sr,r0,r1,r2,r3,r4,hkyr,hsubr⟩:=kid2 (HKW.out _ _ _ _ HJ9.out) (i:=2) hu
       obtain ⟨ar,nr,rfl⟩:=hkyr.slice
       simp only [Nat.zero_mul,Nat.one_mul,Nat.zero_add,Nat.reduceMul,Nat.reduceAdd] at r0 r1 r2 r3 r4
       have HFU:=Lib.hid (few_block u m4)
       have hgu:=(block_gro u m4).len
       go_wp2_with (go_at_call 58;refine (IB u ar nr sr B q _ _ _ _ hkyr (fun b hb=>HS.out b (hsubr b hb)) HJ9.out.ka (by omega) (by omega)).mono ?_;rintro e w10 ⟨rfl,cv10,sv10,hka,hst⟩;have HJ10:=Lib.hid (HJ9.out.step hka hst);clear hka hst)
       clear r0 r1 r2 r3 r4
       have hkm:m2.code.length < (blockC u m4).code.length:=by omega
       generalize blockC u m4 = m5 at *
       obtain ⟨gL,cL,uL,hcvL,l1L,l2L,l3L,l4L,l5L⟩:=HJ10.out.ka.spot hkm
       subst hcvL
       clear p0 p1 p2 p3 p4 pl k0 k2 kf2 kl
       obtain ⟨p0,p1,p2,p3,p4,pl,k0,k2,kf2,kl⟩:=HJ10.out.cells
       have hkmj:((m2.code.length:Nat):Int) < (m5.code.length:Int):=by omega
       go_region_law (go_simp;fail)
       all_goals
        go_wp2_with fail
        go_end0
        exact ⟨rfl,_,_,by rw [HR.out];exact (HJ10.out.drew.land hkm).ka,(HJ10.out.drew.land hkm).stp⟩
     ·clear hup
      go_upto_region 19 with (go_at_call 59;refine (put_any B q _ _ _ ⟨15,0,0,[]⟩ _ HJ7.out.ka HJ7.out.size (by omega)).mono ?_;rintro e w8 ⟨rfl,cv8,sv8,hka,hst⟩;have HJ8:=Lib.hid (HJ7.out.step hka hst);clear hka hst)
      clear u0 u1 u2 u3 u4
      have hpl2:(m2.put ⟨15,0,0,[]⟩).code.length = m2.code.length + 1:=by simp [MS.put]
      have hps2:(m2.put ⟨15,0,0,[]⟩).slots = m2.slots:=rfl
      have hkm:m1.code.length < (m2.put ⟨15,0,0,[]⟩).code.length:=by omega
      have hm3l:(m2.put ⟨15,0,0,[]⟩).code.length ≤ m2.code.length + 1 ∧ m2.code.length + 1 ≤ (m2.put ⟨15,0,0,[]⟩).code.length ∧ (m2.put ⟨15,0,0,[]⟩).slots.length ≤ m2.slots.length:=by rw [hps2];omega
      clear hpl2 hps2
      generalize m2.put ⟨15,0,0,[]⟩ = m3 at *
      obtain ⟨gL,cL,uL,hcvL,l1L,l2L,l3L,l4L,l5L⟩:=HJ8.out.ka.spot hkm
      subst hcvL
      clear p0 p1 p2 p3 p4 pl k0 k2 kf2 kl
      obtain ⟨p0,p1,p2,p3,p4,pl,k0,k2,kf2,kl⟩:=HJ8.out.cells
      have hkmj:((m1.code.length:Nat):Int) < (m3.code.length:Int):=by omega
      go_region_law (go_simp;fail)
      all_goals
       have HJ9:=Lib.hid (HJ8.out.land hkm).drew
       clear l1L l2L l3L l4L l5L hkmj HJ8
       have hm4l:(m3.land m1.code.length).code.length = m3.code.length:=by simp [MS.land,setArg]
       have hm4s:(m3.land m1.code.length).slots.length = m3.slots.length:=rfl
       generalize (w8.setCell ⟨gL,m1.code.length * 4 + 1,none⟩ (.int .i64 m3.code.length)).drew = w9 at *
       generalize m3.land m1.code.length = m4 at *
       have hm4:m4.code.length ≤ m3.code.length ∧ m3.code.length ≤ m4.code.length ∧ m4.slots.length ≤ m3.slots.length:=by omega
       clear hm4l hm4s
       clear p0 p1 p2 p3 p4 pl k0 k2 kf2 kl
       obtain ⟨p0,p1,p2,p3,p4,pl,k0,k2,kf2,kl⟩:=HJ9.out.cells
       obtain ⟨cr,sr,r0,r1,r2,r3,r4,hkyr,hsubr⟩:=kid2 (HKW.out _ _ _ _ HJ9.out) (i:=2) hu
       obtain ⟨ar,nr,rfl⟩:=hkyr.slice
       simp only [Nat.zero_mul,Nat.one_mul,Nat.zero_add,Nat.reduceMul,Nat.reduceAdd] at r0 r1 r2 r3 r4
       have HFU:=Lib.hid (few_block u m4)
       have hgu:=(block_gro u m4).len
       go_wp2_with (go_at_call 58;refine (IB u ar nr sr B q _ _ _ _ hkyr (fun b hb=>HS.out b (hsubr b hb)) HJ9.out.ka (by omega) (by omega)).mono ?_;rintro e w10 ⟨rfl,cv10,sv10,hka,hst⟩;have HJ10:=Lib.hid (HJ9.out.step hka hst);clear hka hst)
       clear r0 r1 r2 r3 r4
       have hkm:m2.code.length < (blockC u m4).code.length:=by omega
       generalize blockC u m4 = m5 at *
       obtain ⟨gL,cL,uL,hcvL,l1L,l2L,l3L,l4L,l5L⟩:=HJ10.out.ka.spot hkm
       subst hcvL
       clear p0 p1 p2 p3 p4 pl k0 k2 kf2 kl
       obtain ⟨p0,p1,p2,p3,p4,pl,k0,k2,kf2,kl⟩:=HJ10.out.cells
       have hkmj:((m2.code.length:Nat):Int) < (m5.code.length:Int):=by omega
       go_region_law (go_simp;fail)
       all_goals
        go_wp2_with fail
        go_end0
        exact ⟨rfl,_,_,by rw [HR.out];exact (HJ10.out.drew.land hkm).ka,(HJ10.out.drew.land hkm).stp⟩
  ·have hfit:kidsS x.kind ≠ some x.kids.length:=by rw [hke];simp [hcn]
   have e2:((c:Int) != (x.kids.length:Int)) = true:=by simp;omega
   have HR:Hid (mF = { m with bad:=true }):=by unfold Hid;exact HE0.out hfit
   go_wp2_with fail
   go_end0
   exact ⟨rfl,_,_,by rw [HR.out];exact HI.out.ka.mark true,HI.out.stp.trans (Stp.of_turned ((Turned.refl _ _).setCell (by simp) _))⟩
theorem maker_all:∀ d,StmtAt d ∧ BlockAt d
 | 0=>⟨fun x a n S B q cv sv m w hk=>hk.elim,fun x a n S B q cv sv m w hk=>hk.elim⟩
 | d + 1=>⟨stmt_step (maker_all d).2,block_step (maker_all d).1⟩
end Go.Proofs.YtmfpmandkhiknaaGreatDoor.mkr
