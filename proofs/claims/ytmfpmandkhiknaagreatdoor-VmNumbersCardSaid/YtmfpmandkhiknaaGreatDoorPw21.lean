/-
  Proved: a machine runs. Conditions: as each theorem says.
-/
import Derived.Test.YtmfpmandkhiknaaGreatDoorPw20
import Derived.Defers
import Derived.BigQuiet
import Derived.StillTailTactics
set_option linter.unusedVariables false
set_option linter.unusedSimpArgs false
namespace Go.Proofs.YtmfpmandkhiknaaGreatDoor.vmm
open Go Go.RowKit Ieee
open flt heap
open lex (run_store_float add0)
set_option maxRecDepth 100000
attribute [local go_sem] run_store_float
theorem IRow.cells {w:World} {v:Value} {C:Is} (h:IRow w v C):(v = .slice none 0 0 ∧ C = []) ∨ ∃ g c,v = .slice (some ⟨g,0,none⟩) C.length c ∧ g < w.heap.size ∧ C.length ≤ c ∧ c ≤ 9223372036854775807 ∧
  ∀ j u,(iCs C)[j]? = some u → w.cell? ⟨g,j,none⟩ = some u:=by
 have hlt:=World.ownsRow.lt h
 have hcl := @World.ownsRow.cells _ _ _ _ _ _ _ h
 obtain ⟨hl,⟨h1,h2⟩ | ⟨g,c,cur,hv,h2,h3,h4,h5,h6,h7⟩⟩:=h
 ·exact .inl ⟨h1,List.length_eq_zero_iff.1 h2⟩
 ·unfold maxLen at h5
  refine .inr ⟨g,c,hv,(hlt g (by rw [hv];rfl)).2,h4,by omega,fun j u hu => ?_⟩
  have k0:=hcl (g:=g) (by rw [hv];rfl) _ _ hu
  rw [add0] at k0
  exact k0
theorem IRow.slice {w:World} {v:Value} {C:Is} (h:IRow w v C):∃ a c,v = .slice a C.length c:=by
 rcases h.cells with ⟨rfl,rfl⟩ | ⟨g,c,rfl,_⟩
 ·exact ⟨none,0,rfl⟩
 ·exact ⟨_,_,rfl⟩
def RunP (p:Nat) (mF:Mac) (cv sv:Value) (C:Is) (w:World) (e:Ending) (w':World):Prop:=
 e = .returned (.tuple #[]) ∧ ∃ sv' V' L',MA w' p mF cv sv' V' L' C ∧ (mF.state ≠ 3 → L'.map (·.1) = mF.stack) ∧ Next p sv w sv' w'
structure RL (w:World) (p:Nat) (mF:Mac) (cv sv:Value) (C:Is) (k:Nat) (m:Mac) (sv':Value) (V' L':Vs) (wr:World):Prop where
 ma:MA wr p m cv sv' V' L' C
 st:L'.map (·.1) = m.stack
 fit:Fit m
 fu:m.fuel < k
 eq:runM k m = mF
 nx:Next p sv w sv' wr
theorem RL.stop {w:World} {p:Nat} {mF:Mac} {cv sv:Value} {C:Is} {k:Nat} {m:Mac} {sv':Value} {V' L':Vs} {wr:World} (h:RL w p mF cv sv C k m sv' V' L' wr) (hs:m.state ≠ 0):RunP p mF cv sv C w (.returned (.tuple #[])) wr:=by
 have:=h.eq
 rw [run_stop hs] at this
 subst this
 exact ⟨rfl,sv',V',L',h.ma,fun _=>h.st,h.nx⟩
theorem RL.last {w:World} {p:Nat} {mF:Mac} {cv sv:Value} {C:Is} {k:Nat} {m:Mac} {sv':Value} {V' L':Vs} {wr:World} (h:RL w p mF cv sv C k m sv' V' L' wr) (hs:m.state = 0) {m2:Mac} (h2:roundM m = m2) (h3:m2.state ≠ 0):m2 = mF:=by
 have:=h.eq
 have hf:=h.fu
 have hg:=h.fit.fuel
 cases k with
 | zero=>omega
 | succ k=>rw [runM,if_pos hs,h2,run_stop h3] at this;exact this
theorem Below.drewN' (w:World) (n:Nat):Below w.heap.size w (w.drewN n):=⟨rfl,rfl,rfl,Nat.le_refl _,fun _ _=>rfl⟩
set_option maxHeartbeats 2000000 in
theorem run_any (p:Nat) (m:Mac) (cv sv:Value) (V L:Vs) (C:Is) (n:Nat) (w:World) (h:MA w p m cv sv V L C) (hs:L.map (·.1) = m.stack) (hfit:Fit m) (hn:m.fuel < n) :
  Calls Tryz.prog 37 #[.pointer (some ⟨p,0,none⟩)] w (RunP p (runM n m) cv sv C w):=by
 have H0:Hid (RL w p (runM n m) cv sv C n m sv V L w):=⟨h,hs,hfit,hn,rfl,Next.refl _ _ _⟩
 generalize runM n m = mF at *
 clear h hs hfit hn
 go_enter_defers Tryz.func37,Tryz.ntmps37
 go_wp2_with fail
 go_loopg [] n (fun k wr=>∃ m' sv' V' L',Hid (RL w p mF cv sv C k m' sv' V' L' wr))
 case atStart=>exact ⟨m,sv,V,L,H0.out⟩
 case round =>
  clear H0
  obtain ⟨m1,sv1,V1,L1,HR⟩:=hrel
  cases gk with
  | zero =>
   have h1:=HR.out.fu
   have h2:=HR.out.fit.fuel
   omega
  | succ gk =>
  have q0:=HR.out.ma.t 197 0 rfl rfl
  have q1:wr.cell? ⟨p,1,none⟩ = some (.int .i64 m1.pc):=HR.out.ma.cell 1
  have q2:wr.cell? ⟨p,2,none⟩ = some (.int .i64 m1.fuel):=HR.out.ma.cell 2
  have q3:wr.cell? ⟨p,3,none⟩ = some (.int .i64 m1.ran):=HR.out.ma.cell 3
  have q4:wr.cell? ⟨p,0,none⟩ = some cv:=HR.out.ma.cell 0
  have f0:=HR.out.ma.free 197
  have f1:=HR.out.ma.free 1
  have f2:=HR.out.ma.free 2
  have f3:=HR.out.ma.free 3
  have hpl:=blk_lt HR.out.ma.obj
  obtain ⟨ca,cc,rfl⟩:=HR.out.ma.ins.slice
  by_cases hst:m1.state = 0
  ·rw [hst] at q0
   by_cases hpc:(C.length:Int) ≤ m1.pc
   ·have hd:decide (m1.pc ≥ (C.length:Int)) = true:=decide_eq_true hpc
    have HF:Hid ({ m1 with state:=2 } = mF):=HR.out.last hst (by rw [round_eq,if_pos (by rw [← HR.out.ma.code,List.length_map];exact hpc)]) (by simp)
    go_wp2_with fail
    go_quiet (fail)
    all_goals
     have HMq:Hid (MA (wr.drewN nq) p m1 (.slice ca C.length cc) sv1 V1 L1 C):=HR.out.ma.below (Below.drewN' wr nq)
     have HNq:Hid (Next p sv w sv1 (wr.drewN nq)):=HR.out.nx.trans (Next.of_below (Below.drewN' wr nq))
     go_wp2_with fail
     refine leaves_cons (f:=38) (args := #[.pointer (some ⟨p,0,none⟩)]) (by simp) (by simp [go_sem]) ?_
     refine (caught_idle _ _).mono ?_
     rintro e u' w3 ⟨rfl,rfl,rfl⟩
     refine ⟨.tuple #[],by simp [results,Tryz.results37,go_sem],rfl,sv1,V1,L1,?_,?_,?_⟩
     ·rw [← HF.out]
      exact HMq.out.poke ((Turned.refl _ _).setCell (by simp) _) (row_put HMq.out.v64 HMq.out.obj 197 0 rfl _) rfl rfl
     ·rw [← HF.out]
      exact fun _=>HR.out.st
     ·exact HNq.out.trans (Next.of_turned ((Turned.refl _ _).setCell (by simp) _))
   ·have hd:decide (m1.pc ≥ (C.length:Int)) = false:=decide_eq_false (by omega)
    have hpc2:¬ (m1.code.length:Int) ≤ m1.pc:=by rw [← HR.out.ma.code,List.length_map];exact hpc
    by_cases hfu:m1.fuel = 0
    ·have hfb:(m1.fuel == 0) = true:=beq_iff_eq.2 hfu
     have HF:Hid (failM m1 (2204,[]) = mF):=HR.out.last hst (by rw [round_eq,if_neg hpc2,if_pos hfu]) (by simp [failM])
     go_wp2_with fail
     go_quiet (fail)
     all_goals
      have HMq:Hid (MA (wr.drewN nq) p m1 (.slice ca C.length cc) sv1 V1 L1 C):=HR.out.ma.below (Below.drewN' wr nq)
      have HNq:Hid (Next p sv w sv1 (wr.drewN nq)):=HR.out.nx.trans (Next.of_below (Below.drewN' wr nq))
      go_wp2_with (go_at_call 60;refine (fail_yes _ _).mono ?_;rintro e w' ⟨rfl,rfl⟩)
      refine leaves_cons (f:=38) (args := #[.pointer (some ⟨p,0,none⟩)]) (by simp) (by simp [go_sem]) ?_
      refine (caught_panic p m1 (.slice ca C.length cc) sv1 V1 L1 C 2204 [] _ HMq.out).mono ?_
      rintro e u' w3 ⟨rfl,rfl,hm,hn⟩
      refine ⟨.tuple #[],by simp [results,Tryz.results37,go_sem],rfl,sv1,V1,L1,?_,?_,HNq.out.trans hn⟩
      ·rw [← HF.out];exact hm
      ·rw [← HF.out];exact fun h=>absurd rfl h
    ·have hfb:(m1.fuel == 0) = false:=beq_eq_false_iff_ne.2 hfu
     have hw1:IntKind.i64.wrap (m1.fuel - 1) = m1.fuel - 1:=IntWalk.i64_in _ (by have:=HR.out.fit.fuel;have:=HR.out.fit.ran;have:=HR.out.fit.sum;omega)
     have hw2:IntKind.i64.wrap (m1.ran + 1) = m1.ran + 1:=IntWalk.i64_in _ (by have:=HR.out.fit.fuel;have:=HR.out.fit.ran;have:=HR.out.fit.sum;omega)
     have hw3:IntKind.i64.wrap (m1.pc + 1) = m1.pc + 1:=IntWalk.i64_in _ (by have:=HR.out.fit.few;have:=HR.out.fit.pc0;omega)
     go_wp2_with fail
     go_quiet (fail)
     all_goals
      go_upto_region 7 with (go_at_call 60;refine (fail_no _ _).mono ?_;rintro e w' ⟨rfl,rfl⟩)
      have HMq:Hid (MA (wr.drewN nq) p m1 (.slice ca C.length cc) sv1 V1 L1 C):=HR.out.ma.below (Below.drewN' wr nq)
      have HNq:Hid (Next p sv w sv1 (wr.drewN nq)):=HR.out.nx.trans (Next.of_below (Below.drewN' wr nq))
      have h64:=HMq.out.v64
      have HM2:Hid (MA (((wr.drewN nq).setCell ⟨p,2,none⟩ (.int .i64 (m1.fuel - 1))).setCell ⟨p,3,none⟩ (.int .i64 (m1.ran + 1))) p { m1 with fuel:=m1.fuel - 1,ran:=m1.ran + 1 } (.slice ca C.length cc) sv1 V1 L1 C):=by
       refine HMq.out.poke (((Turned.refl _ _).setCell (by simp) _).setCell (by simp) _) ?_ rfl rfl
       have:=blk_set (blk_set HMq.out.obj 2 (.int .i64 (m1.fuel - 1))) 3 (.int .i64 (m1.ran + 1))
       rw [List.setIfInBounds_toArray,List.setIfInBounds_toArray] at this
       exact this
      have HN2:Hid (Next p sv w sv1 (((wr.drewN nq).setCell ⟨p,2,none⟩ (.int .i64 (m1.fuel - 1))).setCell ⟨p,3,none⟩ (.int .i64 (m1.ran + 1)))):=HNq.out.trans (Next.of_turned (((Turned.refl _ _).setCell (by simp) _).setCell (by simp) _))
      generalize (((wr.drewN nq).setCell ⟨p,2,none⟩ (.int .i64 (m1.fuel - 1))).setCell ⟨p,3,none⟩ (.int .i64 (m1.ran + 1))) = w2 at *
      clear q0 q1 q2 q3 q4 f0 f1 f2 f3 hpl HMq HNq
      obtain ⟨k,hk⟩:∃ k:Nat,m1.pc = k:=⟨m1.pc.toNat,by have:=HR.out.fit.pc0;omega⟩
      have hkC:k < C.length:=by omega
      obtain ⟨⟨⟨xop,xarg,xnum,xt⟩,xr⟩,hx⟩:∃ x,C[k]? = some x:=⟨_,List.getElem?_eq_getElem hkC⟩
      have hat:atM m1 = ⟨xop,xarg,xnum,xt⟩:=by
       unfold atM
       rw [hk,Int.toNat_natCast,List.getD_eq_getElem?_getD,← HR.out.ma.code,List.getElem?_map,hx]
       rfl
      have hmem:(⟨xop,xarg,xnum,xt⟩:Ins) ∈ m1.code:=by rw [← HR.out.ma.code];exact List.mem_map_of_mem (f:=fun y:Ins × Nat=>y.1) (List.mem_of_getElem? hx)
      have hiok:=HM2.out.iok _ (List.mem_of_getElem? hx)
      rcases HM2.out.ins.cells with ⟨-,h0⟩ | ⟨g,c,hcv,hg,hlc,hcm,hcl⟩
      ·rw [h0] at hkC;simp at hkC
      simp only [Value.slice.injEq] at hcv
      obtain ⟨rfl,-,rfl⟩:=hcv
      obtain ⟨e0,e1,e2,e3⟩:=iCs_get C k _ hx
      have k0:=hcl _ _ e0
      have k1:=hcl _ _ e1
      have k2:=hcl _ _ e2
      have k3:=hcl _ _ e3
      simp only at k0 k1 k2 k3
      have q0:=HM2.out.cell 0
      have q1:=HM2.out.cell 1
      simp only [mRow,List.getElem?_cons_zero,List.getElem?_cons_succ,hk] at q0 q1
      have hpl:=blk_lt HM2.out.obj
      have hki:(k:Int) < (C.length:Int):=by omega
      clear e0 e1 e2 e3 hcl
      have HAT:=Lib.hid hat
      have HME:=Lib.hid hmem
      have HIO:=Lib.hid hiok
      clear hat hmem hiok hx
      go_region
      all_goals
       have HM7:Hid (MA (w2.alloc (iO ⟨⟨xop,xarg,xnum,xt⟩,xr⟩)).drew p { m1 with fuel:=m1.fuel - 1,ran:=m1.ran + 1 } (.slice (some ⟨g,0,none⟩) C.length cc) sv1 V1 L1 C):=(HM2.out.below ((Below.refl _ _).alloc (Nat.le_refl _) _)).drew
       have hb7:(w2.alloc (iO ⟨⟨xop,xarg,xnum,xt⟩,xr⟩)).drew.heap[w2.heap.size]? = some (iO ⟨⟨xop,xarg,xnum,xt⟩,xr⟩):=blk_new w2 _
       have HN7:Hid (Next p sv w sv1 (w2.alloc (iO ⟨⟨xop,xarg,xnum,xt⟩,xr⟩)).drew):=HN2.out.trans (Next.of_below ((Below.refl _ _).alloc (Nat.le_refl _) _).drew)
       generalize (w2.alloc (iO ⟨⟨xop,xarg,xnum,xt⟩,xr⟩)).drew = w7 at *
       clear k0 k1 k2 k3 q0 q1 hpl
       rw [hk] at hw3
       have hnp:w2.heap.size ≠ p:=by have:=blk_lt HM2.out.obj;omega
       have q1:w7.cell? ⟨p,1,none⟩ = some (.int .i64 k):=by rw [← hk];exact HM7.out.cell 1
       have f1:=HM7.out.free 1
       have hpl:=blk_lt HM7.out.obj
       go_upto_region 9 with fail
       have hb8:(w7.setCell ⟨p,1,none⟩ (.int .i64 ((k:Int) + 1))).heap[w2.heap.size]? = some (iO ⟨⟨xop,xarg,xnum,xt⟩,xr⟩):=(blk_other (fun e=>hnp e) 1 _).trans hb7
       have HM8:Hid (MA (w7.setCell ⟨p,1,none⟩ (.int .i64 ((k:Int) + 1))) p (nextM m1) (.slice (some ⟨g,0,none⟩) C.length cc) sv1 V1 L1 C):=by
        refine HM7.out.poke ((Turned.refl _ _).setCell (by simp) _) ?_ rfl rfl
        have:=blk_set HM7.out.obj 1 (.int .i64 ((k:Int) + 1))
        rw [List.setIfInBounds_toArray] at this
        unfold nextM
        rw [hk]
        exact this
       have HN8:Hid (Next p sv w sv1 (w7.setCell ⟨p,1,none⟩ (.int .i64 ((k:Int) + 1)))):=HN7.out.trans (Next.of_turned ((Turned.refl _ _).setCell (by simp) _))
       generalize (w7.setCell ⟨p,1,none⟩ (.int .i64 ((k:Int) + 1))) = w8 at *
       clear q1 f1 hpl hb7 HM7 HN7
       have x0:=blk_cell (hb8) 0
       have x1:=blk_cell (hb8) 1
       have x2:=blk_cell (hb8) 2
       have x3:=blk_cell (hb8) 3
       have xl:=blk_lt (hb8)
       simp only [List.getElem?_toArray,List.getElem?_cons_zero,List.getElem?_cons_succ] at x0 x1 x2 x3
       have HFN:=Lib.hid (HR.out.fit.next (by omega) hfu)
       have HDO:=Lib.hid (do_any p (nextM m1) (.slice (some ⟨g,0,none⟩) C.length cc) sv1 V1 L1 C ⟨xop,xarg,xnum,xt⟩ xr m1.code.length w8 HM8.out HR.out.st HR.out.fit.sh HIO.out (HR.out.fit.fair _ HME.out))
       have HRD:Hid (roundM m1 = match doM (nextM m1) ⟨xop,xarg,xnum,xt⟩ with | .ok m2=>m2 | .error e=>failM (nextM m1) e):=by
        unfold Hid
        rw [round_eq,if_neg (by omega),if_neg hfu,HAT.out]
        rfl
       cases hdm:doM (nextM m1) ⟨xop,xarg,xnum,xt⟩ with
       | ok m2 =>
        rw [hdm] at HDO HRD
        simp only at HRD
        have HKE:=Lib.hid (do_keep hdm)
        clear hdm
        go_wp2_with (go_at_call 61;refine (HDO.out).mono ?_;rintro e w9 ⟨rfl,sv9,V9,L9,hm9,hs9,hn9⟩;have HM9:=Lib.hid hm9;have HS9:=Lib.hid hs9;have HN9:=Lib.hid (HN8.out.trans hn9);clear hm9 hs9 hn9)
        go_roundg gk
        case rel =>
         refine ⟨m2,sv9,V9,L9,HM9.out,HS9.out,HFN.out.keep HME.out HKE.out,?_,?_,HN9.out⟩
         ·have h1:=HR.out.fu
          have h2:=HKE.out.fuel
          rw [h2]
          show m1.fuel - 1 < _
          omega
         ·have h1:=HR.out.eq
          rw [runM,if_pos hst,HRD.out] at h1
          exact h1
        case measure=>omega
       | error y =>
        rw [hdm] at HDO HRD
        simp only at HRD
        clear hdm
        have HF:Hid (failM (nextM m1) y = mF):=HR.out.last hst HRD.out (by simp [failM])
        go_wp2_with (go_at_call 61;refine (HDO.out).mono ?_;rintro e w9 ⟨rfl,sv9,L9,hm9,hn9⟩;have HM9:=Lib.hid hm9;have HN9:=Lib.hid (HN8.out.trans hn9);clear hm9 hn9)
        refine leaves_cons (f:=38) (args := #[.pointer (some ⟨p,0,none⟩)]) (by simp) (by simp [go_sem]) ?_
        refine (caught_panic p _ _ _ _ _ _ y.1 y.2 _ HM9.out).mono ?_
        rintro e u' w3 ⟨rfl,rfl,hm,hn⟩
        refine ⟨.tuple #[],by simp [results,Tryz.results37,go_sem],rfl,sv9,V1,L9,?_,?_,HN9.out.trans hn⟩
        ·rw [← HF.out];exact hm
        ·rw [← HF.out];exact fun h=>absurd rfl h
  ·have hst2:(m1.state == 0) = false:=beq_eq_false_iff_ne.2 hst
   go_wp2_with fail
   refine leaves_cons (f:=38) (args := #[.pointer (some ⟨p,0,none⟩)]) (by simp) (by simp [go_sem]) ?_
   refine (caught_idle _ _).mono ?_
   rintro e u' w3 ⟨rfl,rfl,rfl⟩
   refine ⟨.tuple #[],by simp [results,Tryz.results37,go_sem],HR.out.stop hst⟩
end Go.Proofs.YtmfpmandkhiknaaGreatDoor.vmm
