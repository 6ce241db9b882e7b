/-
  Proved: what the document's Script returns, of every text. Conditions: as each theorem says.
-/
import Derived.Test.YtmfpmandkhiknaaGreatDoorPw25
import Derived.Test.YtmfpmandkhiknaaGreatDoorPw30
import Derived.Test.YtmfpmandkhiknaaGreatDoorPw31
set_option linter.unusedVariables false
set_option linter.unusedSimpArgs false
namespace Go.Proofs.YtmfpmandkhiknaaGreatDoor.par
open Go.RowKit
open heap
open lex (Tk TRow TkAt run_store_float add0 scanL scanF)
open many (envOf st0)
set_option maxRecDepth 100000
attribute [local go_sem] run_store_float field_tok0 field_tok3
theorem scanF_len:∀ (f:Nat) (t:List UInt8) (a:Nat),(scanF f t a).1.length ≤ f + 1
 | 0,t,a=>by simp [scanF]
 | f + 1,t,a=>by
  rw [scanF]
  split
  ·simp
  ·split
   ·simp
   ·have:=scanF_len f
    simp only [List.length_cons]
    refine Nat.succ_le_succ (this _ _)
theorem scanL_len (l:List UInt8):(scanL l).1.length ≤ 16386:=by
 unfold scanL
 split
 ·simp
 ·have:=scanF_len (l.length + 1) (l.drop (lex.skp false l)) (lex.skp false l)
  omega
theorem trow_base {w:World} {b b2:Nat} {v:Value} {ts:List Tk} (h:TRow w b v ts) (hb:b2 ≤ b):TRow w b2 v ts:=by
 obtain ⟨h1,h2 | ⟨g,c,cur,hv,hg,r⟩⟩:=h
 ·exact ⟨h1,.inl h2⟩
 ·exact ⟨h1,.inr ⟨g,c,cur,hv,Nat.le_trans hb hg,r⟩⟩
set_option maxHeartbeats 1000000 in
theorem begun_any (s:ByteArray) (w:World) (hs:s.size ≤ 9223372036854775807) :
  Calls Tryz.prog 51 #[.string s] w fun e w'=>∃ p v,e = .returned (PP p) ∧ PAt w' p v (envOf s.data.toList) st0 ∧ w.heap.size ≤ p ∧ Below w.heap.size w w':=by
 have HSC:=Lib.hid (lex.Scan_any s w hs)
 go_enter Tryz.func51,Tryz.ntmps51
 go_wp2_with fail
 refine HSC.out.mono ?_;rintro e w1 ⟨v,rfl,hrow,hb⟩
 have HROW:=Lib.hid hrow
 have HB:=Lib.hid hb
 obtain ⟨a,c,rfl⟩:=hrow.slice
 clear hrow hb
 go_wp2_with fail
 go_ret
 refine ⟨_,.slice a (scanL s.data.toList).1.length c,rfl,⟨blk_new _ _,trow_base (HROW.out.below ((Below.refl _ _).alloc (Nat.le_refl _) _)) (Nat.zero_le _),?_,Nat.zero_le _⟩,HB.out.size,HB.out.alloc HB.out.size _⟩
 have:=scanL_len s.data.toList
 show (scanL s.data.toList).1.length ≤ _
 omega
theorem t_fix' (p:Nat) (v:Value) (E:PE) (s:PS) (w:World) (h:PAt w p v E s) :
  Calls Tryz.prog 52 #[PP p] w fun e w'=>e = .returned (.agg #[.int .i64 (tk E s).kind,.string ⟨(tk E s).text.toArray⟩,.float .f64 (tk E s).num,.int .i64 (tk E s).at']) ∧ PAt w' p v E (sT E s) ∧ Turned [p] w w':=t_any p v E s w h
theorem res5 {W:World} {b:Nat} {u0 u1 u2 u3 u4:Value} {t:TypeId} (h:W.heap[b]? = some (.cells #[u0,u1,u2,u3,u4] t (0,0))) (x0 x1 x2 x3 x4:Value) :
  (((((W.setCell ⟨b,0,none⟩ x0).setCell ⟨b,1,none⟩ x1).setCell ⟨b,2,none⟩ x2).setCell ⟨b,3,none⟩ x3).setCell ⟨b,4,none⟩ x4).heap[b]? = some (.cells #[x0,x1,x2,x3,x4] t (0,0)):=
 blk_set (blk_set (blk_set (blk_set (blk_set h 0 x0) 1 x1) 2 x2) 3 x3) 4 x4
theorem turned5 (W:World) (b:Nat) (x0 x1 x2 x3 x4:Value):Turned [b] W (((((W.setCell ⟨b,0,none⟩ x0).setCell ⟨b,1,none⟩ x1).setCell ⟨b,2,none⟩ x2).setCell ⟨b,3,none⟩ x3).setCell ⟨b,4,none⟩ x4):=
 (((((Turned.refl _ _).setCell (by simp) _).setCell (by simp) _).setCell (by simp) _).setCell (by simp) _).setCell (by simp) _
def ScI (W:World) (p:Nat) (v:Value) (E:PE) (bx:Nat) (kd at':Int) (L:List (Nat × Obj)) (R:Nat → List Nd → PS → Option (List Nd × PS)) (f:Nat) (kf:List Nd) (sf:PS) (k:Nat) (wr:World):Prop:=
 ∃ (ks:List Nd) (s3:PS) (a:Option Addr) (n:Nat) (S:List Nat),SW W wr p v E s3 ((bx,ksO kd [] a ks.length n at') :: L) [⟨ks,.slice a ks.length n,S⟩] ∧
  R k ks s3 = some (kf,sf) ∧ 16 * ms E s3 + 8 ≤ f ∧ ks.length + ms E s3 ≤ 200003
def TreeR (x:Nd) (s2:PS) (w:World) (e:Ending) (w':World):Prop:=
 if s2.code = 0 then ∃ (a:Option Addr) (n:Nat) (S:List Nat),e = .returned (.tuple #[ndV x (.slice a x.kids.length n),.int .i64 0,.int .i64 0]) ∧ (Tr.mk x.kids (.slice a x.kids.length n) S).ok w' ∧ (∀ b ∈ S,w.heap.size ≤ b) ∧ Below w.heap.size w w'
 else e = .returned (.tuple #[ndV zero (.slice none 0 0),.int .i64 s2.bad,.int .i64 s2.code]) ∧ Below w.heap.size w w'
theorem SW.bel {w0 w W:World} {p:Nat} {v:Value} {E:PE} {s:PS} {L:List (Nat × Obj)} {K:List Tr} (h:SW w W p v E s L K) (hb:Below w0.heap.size w0 w) (hp:w0.heap.size ≤ p):Below w0.heap.size w0 W:=
 hb.trans (h.T.below hb.size (fun k hk => by have : k = p := by simpa using hk
                                             omega))
set_option maxHeartbeats 4000000 in
theorem Script_any (s:ByteArray) (w:World) (hs:s.size ≤ 9223372036854775807) (f m:Nat) (ks:List Nd) (s2:PS) (hf:16 * 100001 + 8 ≤ f) (hr:stmtsR (envOf s.data.toList) f m [] st0 = some (ks,s2)) :
  Calls Tryz.prog 35 #[.string s] w (TreeR (.mk 8 [] 0 ks 0) s2 w):=by
 have HBG:=Lib.hid (fun W=>begun_any s W hs)
 have HR:=Lib.hid hr
 clear hr
 generalize envOf s.data.toList = E at *
 go_enter Tryz.func35,Tryz.ntmps35
 go_wp2_with fail
 refine (HBG.out _).mono ?_;rintro e w1 ⟨p,v,rfl,hP,hp,hb⟩
 have HBZ:Hid (w1.heap[w.heap.size]? = some (ndO zero (.slice none 0 0))):=by
  unfold Hid
  have:=hb.block w.heap.size (by simp)
  rw [this];exact blk_new _ _
 have HB1:Hid (Below w.heap.size w w1):=((Below.refl _ _).alloc (Nat.le_refl _) _).trans (hb.mono (by simp))
 have hpz:w.heap.size + 1 ≤ p:=by simpa using hp
 have HS:=Lib.hid (SW.start hP)
 have hle:=ms_le (s:=st0) hP.len
 clear hP hp hb HBG
 have HS2:=Lib.hid ((HS.out.alloc (ksO 8 [] none 0 0 0)).addNil)
 clear HS
 go_upto_block 0 with fail
 have HI0:Hid (ScI w1 p v E w1.heap.size 8 0 [] (stmtsR E f) f ks s2 m (w1.alloc (ksO 8 [] none 0 0 0))):=⟨[],st0,none,0,[],HS2.out,HR.out,by omega,by simp;omega⟩
 clear HS2 HR
 change Code.wp _ _ _ _ (w1.alloc (ksO 8 [] none 0 0 0))
 generalize w1.alloc _ = wi at *
 obtain ⟨bx,hbx⟩:∃ bx,bx = w1.heap.size:=⟨_,rfl⟩
 rw [← hbx] at HI0
 rw [← hbx]
 have HBX:=Lib.hid hbx
 clear hbx
 go_cut [] from 10 to 27 (fun wx=>∃ a n S,Hid (SW w1 wx p v E s2 [(bx,ksO 8 [] a ks.length n 0)] [⟨ks,.slice a ks.length n,S⟩]))
 case first =>
  clear HBZ HB1 HBX
  go_wp2_with fail
  go_loopg [] m (fun k wr=>ScI w1 p v E bx 8 0 [] (stmtsR E f) f ks s2 k wr)
  case atStart=>exact HI0.out
  case round =>
   obtain ⟨qs,s8,a4,n4,S4,hsw,hr,hm,hlen⟩:=hrel
   have HS6:=Lib.hid hsw
   clear hsw HI0
   cases gk with
   | zero=>rw [stmtsR] at hr;cases hr
   | succ k' =>
   rw [stmtsR] at hr
   have hcs:=HS6.out.P.cells
   have q4:=hcs.c4
   clear hcs
   by_cases hc:s8.code = 0
   ·rw [if_neg (by simp [hc])] at hr
    rw [hc] at q4
    have HTA:=Lib.hid (fun W h=>t_fix' p v E s8 W h)
    have hkd:(tk E s8).kind ≠ 0 → (sT E s8).code = 0 ∧ ms E (sT E s8) = ms E s8:=fun h=>by rw [(tk_kind h).2.2];exact ⟨hc,rfl⟩
    have HR:=Lib.hid hr
    have HKD:=Lib.hid hkd
    have HM:Hid (16 * ms E s8 + 8 ≤ f ∧ qs.length + ms E s8 ≤ 200003):=⟨hm,hlen⟩
    clear hr hkd hc hm hlen
    generalize sT E s8 = s9 at *
    generalize tk E s8 = u at *
    obtain ⟨wo,rfl⟩:∃ wo:World,wo = wr:=⟨_,rfl⟩
    go_wp2_with fail
    refine (HTA.out _ HS6.out.P).mono ?_
    rintro e w11 ⟨rfl,hP,hT⟩
    have HS10:=Lib.hid (HS6.out.call hP hT)
    clear hP hT HS6
    clear q4
    have hr:=HR.out
    clear HR
    obtain ⟨ukd,uu,un,ua⟩:=u
    simp only at hr HKD ⊢
    by_cases hk0:ukd = 0
    ·subst hk0
     rw [if_pos rfl] at hr
     cases hr
     clear HM HKD
     go_wp2_with fail
     go_meet
     exact ⟨a4,n4,S4,HS10.out⟩
    ·have hkb:(ukd == 0) = false:=beq_eq_false_iff_ne.2 hk0
     have hkn:(ukd != 0) = true:=by simp [bne,hkb]
     rw [if_neg hk0] at hr
     obtain ⟨h9c,h9m⟩:=HKD.out hk0
     have hm:=HM.out
     obtain ⟨y,s5',h1,h2,h3⟩:=(run_ends E f .stmt s9 (by simp [okJ]) (by simp only [rank];omega)).one rfl
     have h3:=h3 rfl h9c
     simp only [h1] at hr
     have HJ2:=Lib.hid (fun W h=>(jobs_all p v E f).stmt s9 y s5' W (by simp only [rank];omega) h1 h)
     have HN:Hid (stmtsR E f k' (qs ++ [y]) s5' = some (ks,s2) ∧ 16 * ms E s5' + 8 ≤ f ∧ (qs ++ [y]).length + ms E s5' ≤ 200003 ∧ qs.length ≤ 1000000):=⟨hr,by omega,by simp;omega,by omega⟩
     clear hr h1 h2 h3 h9c h9m hm HM HKD hk0
     go_wp2_with fail
     obtain ⟨r0,r1,r2,r3,r4,rf0,rf1,rf2,rf3,rf4,rl⟩:=HS10.out.c5 0 rfl
     go_region_law
      (first
       | (obtain ⟨a2,n2,w13,S2,hrun,hsw⟩:=((HS12.out.alloc (ndO y (.slice a12 y.kids.length n12))).drop _ ((List.Sublist.refl _).cons _)).appendS y rfl w12.heap.size (blk_new _ _) HN.out.2.2.2
          have HRUN:=Lib.hid hrun
          have HS13:=Lib.hid hsw
          clear hrun hsw
          obtain ⟨r0,r1,r2,r3,r4,rf0,rf1,rf2,rf3,rf4,rl⟩:=HS13.out.c5 0 rfl
          refine step_append_run (by rfl) (by rfl) (by rfl) (by rfl) (by rfl) HRUN.out ?_)
       | (go_simp
          go_at_call 57
          refine (HJ2.out _ (by first | exact HS10.out.P | exact HS10.out.drew.P)).mono ?_
          rintro e w12 ⟨a12,n12,S12,rfl,hk,hS,hP,hT⟩
          have HS12:=Lib.hid (HS10.out.drew.callT hk hS hP hT)
          clear hk hS hP hT
          obtain ⟨r0,r1,r2,r3,r4,rf0,rf1,rf2,rf3,rf4,rl⟩:=HS12.out.c5 0 rfl))
     all_goals
      have HB:Hid (ScI w1 p v E bx 8 0 [] (stmtsR E f) f ks s2 k' (w13.setCell ⟨bx,3,none⟩ (.slice a2 (qs.length + 1) n2))):=⟨qs ++ [y],s5',a2,n2,S2,by
       have:=HS13.out.setL 0 rfl 3 (.slice a2 (qs ++ [y]).length n2)
       rw [List.length_append] at this ⊢
       exact this,HN.out.1,HN.out.2.1,HN.out.2.2.1⟩
      clear HS13 HRUN HN HS10 HJ2
      go_wp2_with fail
      go_roundg k'
      case rel=>exact HB.out
      case measure=>omega
   ·have hcb:(s8.code == 0) = false:=beq_eq_false_iff_ne.2 hc
    rw [if_pos hc] at hr
    cases hr
    clear hc hm hlen
    go_wp2_with fail
    clear q4
    go_meet
    exact ⟨a4,n4,S4,HS6.out⟩
 case rest =>
  obtain ⟨a4,n4,S4,HS6⟩:=hcut
  clear HI0
  have hbz:wc.heap[w.heap.size]? = some (ndO zero (.slice none 0 0)):=HS6.out.T.kept HBZ.out (by simp;omega)
  have HZ:=Lib.hid hbz
  have k0:=blk_cell (hbz) 0
  have k1:=blk_cell (hbz) 1
  have k2:=blk_cell (hbz) 2
  have k3:=blk_cell (hbz) 3
  have k4:=blk_cell (hbz) 4
  have kf0:=blk_free (hbz) 0
  have kf1:=blk_free (hbz) 1
  have kf2:=blk_free (hbz) 2
  have kf3:=blk_free (hbz) 3
  have kf4:=blk_free (hbz) 4
  have kl:=blk_lt (hbz)
  simp only [List.getElem?_toArray,List.getElem?_cons_zero,List.getElem?_cons_succ] at k0 k1 k2 k3 k4
  have hbb:=HS6.out.bel (w0:=w) HB1.out (by omega)
  have HBB:=Lib.hid hbb
  have hcs:=HS6.out.P.cells
  have q4:=hcs.c4
  have q5:=hcs.c5
  have hpl:=HS6.out.P.lt
  have hw1:=blk_lt HBZ.out
  clear hcs hbz hbb HBZ HB1
  by_cases hc:s2.code = 0
  ·rw [hc] at q4
   obtain ⟨r0,r1,r2,r3,r4,-,-,-,-,-,rl⟩:=HS6.out.c5 0 rfl
   go_wp2_with fail
   have h5:=res5 HZ.out (.int .i64 8) (.string ⟨#[]⟩) (.float .f64 0) (.slice a4 ks.length n4) (.int .i64 0)
   have ht:=turned5 wc w.heap.size (.int .i64 8) (.string ⟨#[]⟩) (.float .f64 0) (.slice a4 ks.length n4) (.int .i64 0)
   generalize (((((wc.setCell _ _).setCell _ _).setCell _ _).setCell _ _).setCell _ _) = wf at h5 ht ⊢
   clear k0 k1 k2 k3 k4 kf0 kf1 kf2 kf3 kf4 kl
   clear r0 r1 r2 r3 r4 rl
   have k0:=blk_cell (h5) 0
   have k1:=blk_cell (h5) 1
   have k2:=blk_cell (h5) 2
   have k3:=blk_cell (h5) 3
   have k4:=blk_cell (h5) 4
   have kf0:=blk_free (h5) 0
   have kf1:=blk_free (h5) 1
   have kf2:=blk_free (h5) 2
   have kf3:=blk_free (h5) 3
   have kf4:=blk_free (h5) 4
   have kl:=blk_lt (h5)
   simp only [List.getElem?_toArray,List.getElem?_cons_zero,List.getElem?_cons_succ] at k0 k1 k2 k3 k4
   clear h5
   refine bodyPost_ret (v:=.tuple #[.agg #[.int .i64 8,.string ⟨#[]⟩,.float .f64 0,.slice a4 ks.length n4,.int .i64 0],.int .i64 0,.int .i64 0]) (by simp [results,Tryz.results35,go_sem,k0,k1,k2,k3,k4]) rfl ?_
   rw [TreeR,if_pos hc]
   obtain ⟨hk,hS⟩:=HS6.out.trees _ (List.mem_cons_self ..)
   exact ⟨a4, n4, S4, rfl, hk.turned ht (fun b hb hm => by have := hS b hb; have : b = w.heap.size := by simpa using hm
                                                           omega),fun b hb=>Nat.le_trans (by omega) (hS b hb),HBB.out.trans (ht.below HBB.out.size (by simp))⟩
  ·have hcb:(s2.code == 0) = false:=beq_eq_false_iff_ne.2 hc
   have hcn:(s2.code != 0) = true:=by simp [bne,hcb]
   go_wp2_with fail
   go_region
   all_goals
    go_wp2_with fail
    have h5:=res5 HZ.out (.int .i64 0) (.string ⟨#[]⟩) (.float .f64 0) (.slice none 0 0) (.int .i64 0)
    have ht:=turned5 wc w.heap.size (.int .i64 0) (.string ⟨#[]⟩) (.float .f64 0) (.slice none 0 0) (.int .i64 0)
    generalize (((((wc.setCell _ _).setCell _ _).setCell _ _).setCell _ _).setCell _ _) = wf at h5 ht ⊢
    have h6:wf.drew.heap[w.heap.size]? = _:=h5
    have ht2:=ht.drew
    generalize wf.drew = wg at h6 ht2 ⊢
    clear k0 k1 k2 k3 k4 kf0 kf1 kf2 kf3 kf4 kl
    clear h5 ht
    have k0:=blk_cell (h6) 0
    have k1:=blk_cell (h6) 1
    have k2:=blk_cell (h6) 2
    have k3:=blk_cell (h6) 3
    have k4:=blk_cell (h6) 4
    have kf0:=blk_free (h6) 0
    have kf1:=blk_free (h6) 1
    have kf2:=blk_free (h6) 2
    have kf3:=blk_free (h6) 3
    have kf4:=blk_free (h6) 4
    have kl:=blk_lt (h6)
    simp only [List.getElem?_toArray,List.getElem?_cons_zero,List.getElem?_cons_succ] at k0 k1 k2 k3 k4
    clear h6
    refine bodyPost_ret (v:=.tuple #[.agg #[.int .i64 0,.string ⟨#[]⟩,.float .f64 0,.slice none 0 0,.int .i64 0],.int .i64 s2.bad,.int .i64 s2.code]) (by simp [results,Tryz.results35,go_sem,k0,k1,k2,k3,k4]) rfl ?_
    rw [TreeR,if_neg hc]
    exact ⟨rfl,HBB.out.trans (ht2.below HBB.out.size (by simp))⟩
end Go.Proofs.YtmfpmandkhiknaaGreatDoor.par
