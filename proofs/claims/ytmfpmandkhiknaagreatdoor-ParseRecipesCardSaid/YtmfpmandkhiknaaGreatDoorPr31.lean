/-
  Proved: what the document's Recipe returns, of every text. Conditions: as each theorem says.
-/
import Derived.Test.YtmfpmandkhiknaaGreatDoorPr29
import Derived.Test.YtmfpmandkhiknaaGreatDoorPr20
set_option linter.unusedVariables false
set_option linter.unusedSimpArgs false
namespace Go.Proofs.YtmfpmandkhiknaaGreatDoor.par
open Go.RowKit
open heap
open lex (Tk TRow TkAt run_store_float add0 scanL scanF)
open many (envOf st0 recipeR)
set_option maxRecDepth 100000
attribute [local go_sem] run_store_float field_tok0 field_tok3
theorem tk_bad {E:PE} {s:PS} (h:s.code ≠ 0):tk E s = endT:=congrArg Prod.fst (pT_bad h)
theorem stage_ms {E:PE} {f n:Nat} {s s2:PS} {x:Nd} (hn:ms E s < n) (hf:16 * ms E s + 8 ≤ f) (hr:stageR E f n s = some (x,s2)):ms E s2 ≤ ms E s:=by
 by_cases hc:s.code = 0
 ·obtain ⟨y,s3,h1,h2,-⟩:=stage_ends E f n s hn hf hc
  rw [hr] at h1
  cases h1
  omega
 ·rw [stageR,if_neg (by unfold isW;rw [tk_bad hc];decide)] at hr
  cases hr
  rw [ms_wrong];omega
set_option maxHeartbeats 4000000 in
theorem Recipe_any (s:ByteArray) (w:World) (hs:s.size ≤ 9223372036854775807) (f n m:Nat) (x:Nd) (s2:PS) (hf:16 * 100001 + 8 ≤ f) (hn:100001 < n) (hr:recipeR (envOf s.data.toList) f n m st0 = some (x,s2)) :
  Calls Tryz.prog 25 #[.string s] w (TreeR x s2 w):=by
 have HBG:=Lib.hid (fun W=>begun_any s W hs)
 generalize envOf s.data.toList = E at *
 rw [recipeR] at hr
 cases h1:stageR E f n (sT E st0) with
 | none=>rw [h1] at hr;cases hr
 | some r =>
 obtain ⟨x1,s3⟩:=r
 rw [h1] at hr
 simp only at hr
 cases h2:stagesR E f n m [x1] s3 with
 | none=>rw [h2] at hr;cases hr
 | some r =>
 obtain ⟨ks,s4⟩:=r
 rw [h2] at hr
 cases hr
 have H1:=Lib.hid h1
 have HR:=Lib.hid h2
 clear h1 h2
 have hm0:=ms_sT E st0
 go_enter Tryz.func25,Tryz.ntmps25
 go_wp2_with fail
 refine (HBG.out _).mono ?_;rintro e w1 ⟨p,v,rfl,hP,hp,hb⟩
 have HBZ:Hid (w1.heap[w.heap.size]? = some (ndO zero (.slice none 0 0))):=by
  unfold Hid
  have:=hb.block w.heap.size (by simp)
  rw [this];exact blk_new _ _
 have HB1:Hid (Below w.heap.size w w1):=((Below.refl _ _).alloc (Nat.le_refl _) _).trans (hb.mono (by simp))
 have hpz:w.heap.size + 1 ≤ p:=by simpa using hp
 have HS:=Lib.hid (SW.start hP)
 have hle:=ms_le (s:=st0) hP.len
 have HTA:=Lib.hid (fun W h=>t_fix' p v E st0 W h)
 have hms3:=stage_ms (by omega) (by omega) H1.out
 have HJ1:=Lib.hid (fun W h=>stage_any (jobs_all p v E f) (sT E st0) x1 s3 W (by omega) (by omega) H1.out h)
 clear hP hp hb HBG H1
 generalize sT E st0 = s1 at *
 generalize tk E st0 = t at *
 go_wp2_with fail
 refine (HTA.out _ HS.out.P).mono ?_
 rintro e w2 ⟨rfl,hP,hT⟩
 have HS1:=Lib.hid (HS.out.call hP hT)
 clear hP hT HS
 have HS2:=Lib.hid ((HS1.out.alloc (ksO 1 [] none 0 0 t.at')).addNil)
 clear HS1 HTA
 go_upto_region 3 with fail
 change Code.wp _ _ _ _ (w2.alloc (ksO 1 [] none 0 0 t.at'))
 generalize w2.alloc _ = wi at *
 generalize w2.heap.size = bx at *
 go_cut [] from 13 to 19 (fun wx=>∃ a n S,Hid (SW w1 wx p v E s3 [(bx,ksO 1 [] a 1 n t.at')] [⟨[x1],.slice a 1 n,S⟩]))
 case first =>
  clear HBZ HB1 HR
  obtain ⟨r0,r1,r2,r3,r4,rf0,rf1,rf2,rf3,rf4,rl⟩:=HS2.out.c5 0 rfl
  go_region_law
   (first
    | (obtain ⟨a2,n2,w13,S2,hrun,hsw⟩:=((HS12.out.alloc (ndO x1 (.slice a12 x1.kids.length n12))).drop _ ((List.Sublist.refl _).cons _)).appendS x1 rfl w12.heap.size (blk_new _ _) (by simp)
       have HRUN:=Lib.hid hrun
       have HS13:=Lib.hid hsw
       clear hrun hsw
       obtain ⟨r0,r1,r2,r3,r4,rf0,rf1,rf2,rf3,rf4,rl⟩:=HS13.out.c5 0 rfl
       refine step_append_run (by rfl) (by rfl) (by rfl) (by rfl) (by rfl) HRUN.out ?_)
    | (go_simp
       go_at_call 53
       refine (HJ1.out _ (by first | exact HS2.out.P | exact HS2.out.drew.P)).mono ?_
       rintro e w12 ⟨a12,n12,S12,rfl,hk,hS,hP,hT⟩
       have HS12:=Lib.hid (HS2.out.drew.callT hk hS hP hT)
       clear hk hS hP hT
       obtain ⟨r0,r1,r2,r3,r4,rf0,rf1,rf2,rf3,rf4,rl⟩:=HS12.out.c5 0 rfl))
  all_goals
   have HB:Hid (SW w1 (w13.setCell ⟨bx,3,none⟩ (.slice a2 1 n2)) p v E s3 [(bx,ksO 1 [] a2 1 n2 t.at')] [⟨[x1],.slice a2 1 n2,S2⟩]):=HS13.out.setL 0 rfl 3 (.slice a2 1 n2)
   clear HS13 HRUN HS2 HJ1
   go_wp2_with fail
   go_meet
   exact ⟨a2,n2,S2,HB⟩
 case rest =>
 obtain ⟨a1,n1,S1,HS3⟩:=hcut
 have HI0:Hid (ScI w1 p v E bx 1 t.at' [] (stagesR E f n) f ks s2 m wc):=⟨[x1],s3,a1,n1,S1,HS3.out,HR.out,by omega,by simp;omega⟩
 clear HS3 HR HS2 HJ1
 obtain ⟨wi,rfl⟩:∃ wi:World,wi = wc:=⟨_,rfl⟩
 go_upto_block 0 with fail
 go_cut [] from 20 to 37 (fun wx=>∃ a n S,Hid (SW w1 wx p v E s2 [(bx,ksO 1 [] a ks.length n t.at')] [⟨ks,.slice a ks.length n,S⟩]))
 case first =>
  clear HBZ HB1
  go_wp2_with fail
  go_loopg [] m (fun k wr=>ScI w1 p v E bx 1 t.at' [] (stagesR E f n) f ks s2 k wr)
  case atStart=>exact HI0.out
  case round =>
   obtain ⟨qs,s8,a4,n4,S4,hsw,hr,hm,hlen⟩:=hrel
   have HS6:=Lib.hid hsw
   clear hsw HI0
   cases gk with
   | zero=>rw [stagesR] at hr;cases hr
   | succ k' =>
   rw [stagesR] at hr
   have hcs:=HS6.out.P.cells
   have q4:=hcs.c4
   clear hcs
   by_cases hc:s8.code = 0
   ·rw [if_neg (by simp [hc])] at hr
    rw [hc] at q4
    have HTA:=Lib.hid (fun W h=>t_fix' p v E s8 W h)
    have hkd:(tk E s8).kind ≠ 0 → (sT E s8).code = 0 ∧ ms E (sT E s8) = ms E s8:=fun h=>by rw [(tk_kind h).2.2];exact ⟨hc,rfl⟩
    have HR:=Lib.hid hr
    have HKD:=Lib.hid hkd
    have HM:Hid (16 * ms E s8 + 8 ≤ f ∧ qs.length + ms E s8 ≤ 200003):=⟨hm,hlen⟩
    clear hr hkd hc hm hlen
    generalize sT E s8 = s9 at *
    generalize tk E s8 = u at *
    obtain ⟨wo,rfl⟩:∃ wo:World,wo = wr:=⟨_,rfl⟩
    go_wp2_with fail
    refine (HTA.out _ HS6.out.P).mono ?_
    rintro e w11 ⟨rfl,hP,hT⟩
    have HS10:=Lib.hid (HS6.out.call hP hT)
    clear hP hT HS6
    clear q4
    have hr:=HR.out
    clear HR
    obtain ⟨ukd,uu,un,ua⟩:=u
    simp only at hr HKD ⊢
    by_cases hk0:ukd = 0
    ·subst hk0
     rw [if_pos rfl] at hr
     cases hr
     clear HM HKD
     go_wp2_with fail
     go_meet
     exact ⟨a4,n4,S4,HS10.out⟩
    ·have hkb:(ukd == 0) = false:=beq_eq_false_iff_ne.2 hk0
     have hkn:(ukd != 0) = true:=by simp [bne,hkb]
     rw [if_neg hk0] at hr
     obtain ⟨h9c,h9m⟩:=HKD.out hk0
     have hm:=HM.out
     obtain ⟨y,s5',h1,h2,h3⟩:=stage_ends E f n s9 (by have:=ms_le (E:=E) (s:=s9) HS10.out.P.len;omega) (by omega) h9c
     rw [h1] at hr
     have HLN:=ms_le (E:=E) (s:=s9) HS10.out.P.len
     have HJ2:=Lib.hid (fun W h=>stage_any (jobs_all p v E f) s9 y s5' W (by omega) (by omega) h1 h)
     clear HLN
     have HN:Hid (stagesR E f n k' (qs ++ [y]) s5' = some (ks,s2) ∧ 16 * ms E s5' + 8 ≤ f ∧ (qs ++ [y]).length + ms E s5' ≤ 200003 ∧ qs.length ≤ 1000000):=⟨hr,by omega,by simp;omega,by omega⟩
     clear hr h1 h2 h3 h9c h9m hm HM HKD hk0
     go_wp2_with fail
     obtain ⟨r0,r1,r2,r3,r4,rf0,rf1,rf2,rf3,rf4,rl⟩:=HS10.out.c5 0 rfl
     go_region_law
      (first
       | (obtain ⟨a2,n2,w13,S2,hrun,hsw⟩:=((HS12.out.alloc (ndO y (.slice a12 y.kids.length n12))).drop _ ((List.Sublist.refl _).cons _)).appendS y rfl w12.heap.size (blk_new _ _) HN.out.2.2.2
          have HRUN:=Lib.hid hrun
          have HS13:=Lib.hid hsw
          clear hrun hsw
          obtain ⟨r0,r1,r2,r3,r4,rf0,rf1,rf2,rf3,rf4,rl⟩:=HS13.out.c5 0 rfl
          refine step_append_run (by rfl) (by rfl) (by rfl) (by rfl) (by rfl) HRUN.out ?_)
       | (go_simp
          go_at_call 53
          refine (HJ2.out _ (by first | exact HS10.out.P | exact HS10.out.drew.P)).mono ?_
          rintro e w12 ⟨a12,n12,S12,rfl,hk,hS,hP,hT⟩
          have HS12:=Lib.hid (HS10.out.drew.callT hk hS hP hT)
          clear hk hS hP hT
          obtain ⟨r0,r1,r2,r3,r4,rf0,rf1,rf2,rf3,rf4,rl⟩:=HS12.out.c5 0 rfl))
     all_goals
      have HB:Hid (ScI w1 p v E bx 1 t.at' [] (stagesR E f n) f ks s2 k' (w13.setCell ⟨bx,3,none⟩ (.slice a2 (qs.length + 1) n2))):=⟨qs ++ [y],s5',a2,n2,S2,by
       have:=HS13.out.setL 0 rfl 3 (.slice a2 (qs ++ [y]).length n2)
       rw [List.length_append] at this ⊢
       exact this,HN.out.1,HN.out.2.1,HN.out.2.2.1⟩
      clear HS13 HRUN HN HS10 HJ2
      go_wp2_with fail
      go_roundg k'
      case rel=>exact HB.out
      case measure=>omega
   ·have hcb:(s8.code == 0) = false:=beq_eq_false_iff_ne.2 hc
    rw [if_pos hc] at hr
    cases hr
    clear hc hm hlen
    go_wp2_with fail
    clear q4
    go_meet
    exact ⟨a4,n4,S4,HS6.out⟩
 case rest =>
  obtain ⟨a4,n4,S4,HS6⟩:=hcut
  clear HI0
  have hbz:wc.heap[w.heap.size]? = some (ndO zero (.slice none 0 0)):=HS6.out.T.kept HBZ.out (by simp;omega)
  have HZ:=Lib.hid hbz
  have k0:=blk_cell (hbz) 0
  have k1:=blk_cell (hbz) 1
  have k2:=blk_cell (hbz) 2
  have k3:=blk_cell (hbz) 3
  have k4:=blk_cell (hbz) 4
  have kf0:=blk_free (hbz) 0
  have kf1:=blk_free (hbz) 1
  have kf2:=blk_free (hbz) 2
  have kf3:=blk_free (hbz) 3
  have kf4:=blk_free (hbz) 4
  have kl:=blk_lt (hbz)
  simp only [List.getElem?_toArray,List.getElem?_cons_zero,List.getElem?_cons_succ] at k0 k1 k2 k3 k4
  have hbb:=HS6.out.bel (w0:=w) HB1.out (by omega)
  have HBB:=Lib.hid hbb
  have hcs:=HS6.out.P.cells
  have q4:=hcs.c4
  have q5:=hcs.c5
  have hpl:=HS6.out.P.lt
  have hw1:=blk_lt HBZ.out
  clear hcs hbz hbb HBZ HB1
  by_cases hc:s2.code = 0
  ·rw [hc] at q4
   obtain ⟨r0,r1,r2,r3,r4,-,-,-,-,-,rl⟩:=HS6.out.c5 0 rfl
   go_wp2_with fail
   have h5:=res5 HZ.out (.int .i64 1) (.string ⟨#[]⟩) (.float .f64 0) (.slice a4 ks.length n4) (.int .i64 t.at')
   have ht:=turned5 wc w.heap.size (.int .i64 1) (.string ⟨#[]⟩) (.float .f64 0) (.slice a4 ks.length n4) (.int .i64 t.at')
   generalize (((((wc.setCell _ _).setCell _ _).setCell _ _).setCell _ _).setCell _ _) = wf at h5 ht ⊢
   clear k0 k1 k2 k3 k4 kf0 kf1 kf2 kf3 kf4 kl
   clear r0 r1 r2 r3 r4 rl
   have k0:=blk_cell (h5) 0
   have k1:=blk_cell (h5) 1
   have k2:=blk_cell (h5) 2
   have k3:=blk_cell (h5) 3
   have k4:=blk_cell (h5) 4
   have kf0:=blk_free (h5) 0
   have kf1:=blk_free (h5) 1
   have kf2:=blk_free (h5) 2
   have kf3:=blk_free (h5) 3
   have kf4:=blk_free (h5) 4
   have kl:=blk_lt (h5)
   simp only [List.getElem?_toArray,List.getElem?_cons_zero,List.getElem?_cons_succ] at k0 k1 k2 k3 k4
   clear h5
   refine bodyPost_ret (v:=.tuple #[.agg #[.int .i64 1,.string ⟨#[]⟩,.float .f64 0,.slice a4 ks.length n4,.int .i64 t.at'],.int .i64 0,.int .i64 0]) (by simp [results,Tryz.results25,go_sem,k0,k1,k2,k3,k4]) rfl ?_
   rw [TreeR,if_pos hc]
   obtain ⟨hk,hS⟩:=HS6.out.trees _ (List.mem_cons_self ..)
   exact ⟨a4, n4, S4, rfl, hk.turned ht (fun b hb hm => by have := hS b hb; have : b = w.heap.size := by simpa using hm
                                                           omega),fun b hb=>Nat.le_trans (by omega) (hS b hb),HBB.out.trans (ht.below HBB.out.size (by simp))⟩
  ·have hcb:(s2.code == 0) = false:=beq_eq_false_iff_ne.2 hc
   have hcn:(s2.code != 0) = true:=by simp [bne,hcb]
   go_wp2_with fail
   go_region
   all_goals
    go_wp2_with fail
    have h5:=res5 HZ.out (.int .i64 0) (.string ⟨#[]⟩) (.float .f64 0) (.slice none 0 0) (.int .i64 0)
    have ht:=turned5 wc w.heap.size (.int .i64 0) (.string ⟨#[]⟩) (.float .f64 0) (.slice none 0 0) (.int .i64 0)
    generalize (((((wc.setCell _ _).setCell _ _).setCell _ _).setCell _ _).setCell _ _) = wf at h5 ht ⊢
    have h6:wf.drew.heap[w.heap.size]? = _:=h5
    have ht2:=ht.drew
    generalize wf.drew = wg at h6 ht2 ⊢
    clear k0 k1 k2 k3 k4 kf0 kf1 kf2 kf3 kf4 kl
    clear h5 ht
    have k0:=blk_cell (h6) 0
    have k1:=blk_cell (h6) 1
    have k2:=blk_cell (h6) 2
    have k3:=blk_cell (h6) 3
    have k4:=blk_cell (h6) 4
    have kf0:=blk_free (h6) 0
    have kf1:=blk_free (h6) 1
    have kf2:=blk_free (h6) 2
    have kf3:=blk_free (h6) 3
    have kf4:=blk_free (h6) 4
    have kl:=blk_lt (h6)
    simp only [List.getElem?_toArray,List.getElem?_cons_zero,List.getElem?_cons_succ] at k0 k1 k2 k3 k4
    clear h6
    refine bodyPost_ret (v:=.tuple #[.agg #[.int .i64 0,.string ⟨#[]⟩,.float .f64 0,.slice none 0 0,.int .i64 0],.int .i64 s2.bad,.int .i64 s2.code]) (by simp [results,Tryz.results25,go_sem,k0,k1,k2,k3,k4]) rfl ?_
    rw [TreeR,if_neg hc]
    exact ⟨rfl,HBB.out.trans (ht2.below HBB.out.size (by simp))⟩
end Go.Proofs.YtmfpmandkhiknaaGreatDoor.par
