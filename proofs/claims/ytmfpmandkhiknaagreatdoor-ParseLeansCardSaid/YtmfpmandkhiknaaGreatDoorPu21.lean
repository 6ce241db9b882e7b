/-
  Proved: what recipe of the program's parser leaves. Conditions: as each theorem says.
  Proved: what read's deferred function of the program's parser does. Conditions: as each theorem says.
-/
import Derived.Test.YtmfpmandkhiknaaGreatDoorPu19
import Derived.Test.YtmfpmandkhiknaaGreatDoorPu20
set_option linter.unusedVariables false
set_option linter.unusedSimpArgs false
namespace Go.Proofs.YtmfpmandkhiknaaGreatDoor.qar
open par
open Go.RowKit
open heap
open lex (Tk TRow TkAt run_store_float add0)
open many (recipeR)
set_option maxRecDepth 100000
attribute [local go_sem] run_store_float field_tok0 field_tok1 field_tok3
theorem stageR_sT (E:PE) (f n:Nat) (s:PS):stageR E f n (sT E s) = stageR E f n s:=by
 unfold stageR
 rw [isW_sT,sT_sT,tk_sT]
theorem stageR_stk {E:PE} {f n:Nat} {s s2:PS} {x:Nd} (h:stageR E f n s = some (x,s2)):Stk s s2:=by
 unfold stageR at h
 split at h
 ·cases hst:stepsR E f n [(named E wAs (tk E s).at' (pText E (inc (sT E s))).2).1] (must E [59] (named E wAs (tk E s).at' (pText E (inc (sT E s))).2).2) with
  | none=>rw [hst] at h;cases h
  | some r =>
   obtain ⟨kf,s9⟩:=r
   rw [hst] at h
   cases h
   exact (((((stk_sT E s).trans (stk_inc (sT E s))).trans (stk_pText E _)).trans (stk_named E _ _ _)).trans (stk_must E _ _)).trans (stepsR_stk _ _ _ _ _ _ hst)
 ·cases h
  exact (stk_sT E s).trans (stk_wrong E _)
theorem stagesR_sT {E:PE} (f n m:Nat) (ks:List Nd) (t:PS):stagesR E f n m ks (sT E t) = stagesR E f n m ks t:=by
 cases m with
 | zero=>rw [stagesR,stagesR]
 | succ m =>
  by_cases hc:t.code = 0
  ·by_cases h0:(sT E t).code = 0
   ·rw [stagesR,stagesR,sT_sT,tk_sT,if_neg (show ¬ (sT E t).code ≠ 0 from fun h=>h h0),if_neg (show ¬ t.code ≠ 0 from fun h=>h hc)]
   ·have hk:(tk E t).kind = 0:=Classical.byContradiction fun hk=>by
     have:=(tk_kind hk).2.2
     rw [this] at h0
     exact h0 hc
    rw [stagesR,stagesR,if_pos h0,if_neg (show ¬ t.code ≠ 0 from fun h=>h hc),if_pos hk]
  ·rw [sT_bad hc]
theorem stagesR_al {E:PE} {t s:PS} (h:Al E t s) (f n m:Nat) (ks:List Nd):stagesR E f n m ks s = stagesR E f n m ks t:=by
 rcases h with rfl | rfl
 ·rfl
 ·exact stagesR_sT f n m ks t
theorem stagesR_stk {E:PE} (f n:Nat):∀ (m:Nat) (ks:List Nd) (t:PS) (kf:List Nd) (s9:PS),stagesR E f n m ks t = some (kf,s9) → Stk t s9:=by
 intro m
 induction m with
 | zero=>intro ks t kf s9 h;rw [stagesR] at h;cases h
 | succ m ih =>
  intro ks t kf s9 h
  rw [stagesR] at h
  split at h
  ·cases h;exact Stk.refl _
  ·split at h
   ·cases h;exact stk_sT E t
   ·cases hr:stageR E f n (sT E t) with
    | none=>rw [hr] at h;cases h
    | some r =>
     obtain ⟨x,s2⟩:=r
     rw [hr] at h
     exact ((stk_sT E t).trans (stageR_stk hr)).trans (ih _ _ _ _ h)
theorem stage_on {E:PE} {f n:Nat} {t t2 s5:PS} {y:Nd} (hc:t.code = 0) (h:stageR E f n t = some (y,s5)) (ha:Al E t2 s5) (hi:t.i < t2.i):(pn E t).kind ≠ 0:=by
 intro hk
 have hw:isW E wFrom t = false:=by
  rw [← pn_isW hc,hk];rfl
 rw [stageR,if_neg (by rw [hw];decide)] at h
 cases h
 have:=al_i ha
 rw [wrong_i,sT_i] at this
 omega
def RecJ (W:World) (p:Nat) (v:Value) (E:PE) (bx br:Nat) (at':Int) (f n:Nat) (kf:List Nd) (s9:PS) (k:Nat) (wr:World):Prop:=
 ∃ (ks:List Nd) (t:PS) (a:Option Addr) (m:Nat) (S:List Nat),SW W wr p v E t [(bx,ksO 1 [] a ks.length m at'),(br,ndO zero (.slice none 0 0))] [⟨ks,.slice a ks.length m,S⟩] ∧
  (∃ y s5,stageR E f n t = some (y,s5) ∧ Stk s5 s9 ∧ ((pn E t).kind ≠ 0 → stagesR E f n k (ks ++ [y]) s5 = some (kf,s9))) ∧ 16 * par.ms E t + 8 ≤ f ∧ par.ms E t < n ∧ par.ms E t + 1 ≤ k ∧ ks.length + par.ms E t ≤ 200003
set_option maxHeartbeats 4000000 in
theorem recipe_any {p:Nat} {v:Value} {E:PE} (f n m:Nat) (s:PS) (y:Nd) (s5:PS) (kf:List Nd) (s9:PS) (W:World) (hf:16 * ms E s + 8 ≤ f) (hn:ms E s < n) (hm:ms E s + 1 ≤ m)
  (h1:stageR E f n s = some (y,s5)) (hr:stagesR E f n m [y] s5 = some (kf,s9)) (hl:E.ts.length ≤ 100000) (h:PAt W p v E s) :
  Calls Tryz.prog 50 #[PP p] W (ScrR p v E s9 (.mk 1 [] 0 kf (pn E s).at') W):=by
 have HS:=Lib.hid ((SW.start h).alloc (ndO zero (.slice none 0 0)))
 have hle:=ms_le (s:=s) hl
 have HN:=Lib.hid (fun W h=>now_any p v E s W h)
 have HR:Hid ((∃ y s5,stageR E f n s = some (y,s5) ∧ Stk s5 s9 ∧ ((pn E s).kind ≠ 0 → stagesR E f n m ([] ++ [y]) s5 = some (kf,s9))) ∧ 16 * ms E s + 8 ≤ f ∧ ms E s < n ∧ ms E s + 1 ≤ m ∧ ms E s ≤ 100001):=⟨⟨y,s5,h1,stagesR_stk _ _ _ _ _ _ _ hr,fun _=>hr⟩,hf,hn,hm,hle⟩
 have HL:=Lib.hid hl
 clear h hl hr hf hm hle h1 hn
 obtain ⟨t0,ht0⟩:∃ t,pn E s = t:=⟨_,rfl⟩
 rw [ht0] at HN ⊢
 clear ht0
 obtain ⟨kd0,u0,nm0,a0⟩:=t0
 simp only at HN ⊢
 go_enter Tryz.func50,Tryz.ntmps50
 go_upto_region 1 with fail
 change Code.wp _ _ _ _ (W.alloc (ndO zero (.slice none 0 0)))
 generalize W.alloc (ndO zero (.slice none 0 0)) = w0 at *
 generalize hbr:W.heap.size = br at *
 go_wp2_with fail
 refine (HN.out _ HS.out.P).mono ?_;rintro e w1 ⟨rfl,hb1⟩
 have HS1:=Lib.hid (((HS.out.call (HS.out.P.below hb1) (Turned.of_below hb1)).alloc (ksO 1 [] none 0 0 a0)).addNil)
 clear hb1 HN HS
 have HI0:Hid (RecJ W p v E w1.heap.size br a0 f n kf s9 m (w1.alloc (ksO 1 [] none 0 0 a0))):=⟨[],s,none,0,[],HS1.out,HR.out.1,HR.out.2.1,HR.out.2.2.1,HR.out.2.2.2.1,by have:=HR.out.2.2.2.2;simp;omega⟩
 clear HS1 HR
 go_upto_region 2 with fail
 change Code.wp _ _ _ _ (w1.alloc (ksO 1 [] none 0 0 a0))
 generalize w1.alloc (ksO 1 [] none 0 0 a0) = wi at *
 generalize w1.heap.size = bx at *
 go_loopg [] m (fun k wr=>RecJ W p v E bx br a0 f n kf s9 k wr)
 case atStart=>exact HI0.out
 case round =>
  obtain ⟨ks,t,a4,n4,S4,hsw,hex,hm,hn,hkf,hlen⟩:=hrel
  obtain ⟨y,s5,h1,hz,hr⟩:=hex
  have HS7:=Lib.hid hsw
  have hc:=hsw.P.c0
  obtain ⟨k',rfl⟩:∃ k',gk = k' + 1:=⟨gk - 1,by omega⟩
  have HZ:=Lib.hid hz
  have HR:=Lib.hid hr
  have H1:=Lib.hid h1
  have HJ2:=Lib.hid (fun W h=>stageJ (p:=p) (v:=v) t y s5 W h1 h hm hn HL.out)
  have HK:Hid (16 * ms E t + 8 ≤ f ∧ ms E t < n ∧ ms E t + 1 ≤ k' + 1 ∧ ks.length + ms E t ≤ 200003 ∧ t.code = 0):=⟨hm,hn,hkf,hlen,hc⟩
  clear hsw hr hm hkf hlen hc h1 hz hn HI0
  obtain ⟨o0,o1,o2,o3,o4,of0,of1,of2,of3,of4,ol⟩:=HS7.out.c5 0 rfl
  go_upto_region 2 with fail
  go_region_law
   (first
    | (obtain ⟨a2,n2,w11,S2,hrun,hsw⟩:=((HS10.out.alloc (ndO y (.slice a10 y.kids.length n10))).drop _ ((List.Sublist.refl _).cons _)).appendS y rfl w10.heap.size (blk_new _ _) (by have:=HK.out.2.2.2.1;simp only;omega)
       have HRUN:=Lib.hid hrun
       have HS11:=Lib.hid hsw
       clear hrun hsw
       obtain ⟨r0,r1,r2,r3,r4,rf0,rf1,rf2,rf3,rf4,rl⟩:=HS11.out.c5 0 rfl
       refine step_append_run (by rfl) (by rfl) (by rfl) (by rfl) (by rfl) HRUN.out ?_)
    | (go_simp
       go_at_call 71
       refine (HJ2.out _ (by first | exact HS7.out.P | exact HS7.out.drew.P)).mono ?_
       rintro e w10 hnr
       rcases hnr with ⟨t10,ht,hi,a10,n10,S10,rfl,hk,hS,hP,hT⟩ | ⟨hc,rfl,hT⟩
       rotate_left
       · go_wp2_with fail
         exact ⟨rfl,.thr hc ⟨rfl,hT⟩ HS7.out.drew.T HZ.out⟩
       have HS10:=Lib.hid (HS7.out.drew.callT hk hS hP hT)
       have HA10:=Lib.hid (And.intro ht hi)
       clear hk hS hP hT ht hi
       obtain ⟨r0,r1,r2,r3,r4,rf0,rf1,rf2,rf3,rf4,rl⟩:=HS10.out.c5 0 rfl))
  all_goals
   have hkt:=stage_on HK.out.2.2.2.2 H1.out HA10.out.1 HA10.out.2
   have HS12:Hid (SW W (w11.setCell ⟨bx,3,none⟩ (.slice a2 (ks.length + 1) n2)) p v E t10 [(bx,ksO 1 [] a2 (ks ++ [y]).length n2 a0),(br,ndO zero (.slice none 0 0))] [⟨ks ++ [y],.slice a2 (ks ++ [y]).length n2,S2⟩]):=by
    have:=HS11.out.setL 0 rfl 3 (.slice a2 (ks ++ [y]).length n2)
    unfold Hid
    rw [List.length_append] at this ⊢
    exact this
   have hst:=HR.out hkt
   rw [stagesR_al HA10.out.1,stagesR,if_neg (show ¬ t10.code ≠ 0 from fun h=>h HS12.out.P.c0),stageR_sT,← (pn_kt (E:=E) HS12.out.P.c0).1] at hst
   have hms:=HS12.out.P.ms HK.out.2.2.2.2 HA10.out.2
   have HK2:Hid (16 * ms E t10 + 8 ≤ f ∧ ms E t10 < n ∧ ms E t10 + 1 ≤ k' ∧ (ks ++ [y]).length + ms E t10 ≤ 200003):=⟨by have:=HK.out.1;omega,by have:=HK.out.2.1;omega,by have:=HK.out.2.2.1;omega,by
    have:=HK.out.2.2.2.1
    rw [List.length_append]
    simp only [List.length_cons,List.length_nil]
    omega⟩
   have e1:ks.length + 1 = (ks ++ [y]).length:=by simp
   rw [e1] at HS12 ⊢
   clear HS11 HRUN HS10 HS7 HJ2 HR HZ H1 HK hkt hms e1 r0 r1 r2 r3 r4 rf0 rf1 rf2 rf3 rf4 rl
   generalize ks ++ [y] = k2 at *
   go_upto_region 3 with fail
   generalize (w11.setCell _ _) = w12 at HS12 ⊢
   have hc10:=HS12.out.P.c0
   have HN2:=Lib.hid (fun W h=>now_any p v E t10 W h)
   have hEnd:=HS12.out.P.atEnd
   by_cases hA:(pn E t10).kind = 0 ∧ E.lex = 0
   ·obtain ⟨hk0,hl0⟩:=hA
    rw [if_pos hk0] at hst
    cases hst
    have HC:Hid ((sT E t10).code = 0):=(hEnd hk0).1 hl0
    have hkb:((pn E t10).kind == 0) = true:=by rw [hk0];rfl
    have hlb:(E.lex == 0) = true:=by rw [hl0];rfl
    clear hEnd hk0 hl0 hc10
    generalize pn E t10 = tk0 at *
    obtain ⟨kd,u,nm,a⟩:=tk0
    simp only at hkb
    go_wp2_with fail
    refine (HN2.out _ HS12.out.P).mono ?_;rintro e w13 ⟨rfl,hbw13⟩
    have HS13:=Lib.hid (HS12.out.call (HS12.out.P.below hbw13) (Turned.of_below hbw13))
    clear hbw13
    clear HN2 HS12
    have hcs:=HS13.out.P.cells
    have q2:=hcs.c2
    have hpl:=HS13.out.P.lt
    clear hcs
    obtain ⟨o0,o1,o2,o3,o4,of0,of1,of2,of3,of4,ol⟩:=HS13.out.c5 0 rfl
    obtain ⟨r0,r1,r2,r3,r4,rf0,rf1,rf2,rf3,rf4,rl⟩:=HS13.out.c5 1 rfl
    go_wp2_with fail
    have HSH:=Lib.hid (HS13.out.set5 1 rfl (.int .i64 1) (.string ⟨#[]⟩) (.float .f64 0) (.slice a2 kf.length n2) (.int .i64 a0))
    clear HS13
    generalize (((((w13.setCell _ _).setCell _ _).setCell _ _).setCell _ _).setCell _ _) = wf at HSH ⊢
    obtain ⟨z0,z1,z2,z3,z4,zf0,zf1,zf2,zf3,zf4,zl⟩:=HSH.out.c5 1 rfl
    refine bodyPost_ret (v:=.agg #[.int .i64 1,.string ⟨#[]⟩,.float .f64 0,.slice a2 kf.length n2,.int .i64 a0]) (by simp [results,Tryz.results50,go_sem,z0,z1,z2,z3,z4]) rfl ?_
    exact .inl ⟨HC.out,_,HSH.out.node (List.mem_cons_self ..) (.mk 1 [] 0 kf a0) rfl⟩
   ·have HB:Hid (∃ y2 s6,stageR E f n t10 = some (y2,s6) ∧ Stk s6 s9 ∧ ((pn E t10).kind ≠ 0 → stagesR E f n k' (k2 ++ [y2]) s6 = some (kf,s9))):=by
     obtain ⟨y2,s6,h2,-,-⟩:=stage_ends E f n t10 HK2.out.2.1 HK2.out.1 hc10
     refine ⟨y2,s6,h2,?_,fun hk => ?_⟩
     ·by_cases hk:(pn E t10).kind = 0
      ·rw [if_pos hk] at hst
       cases hst
       have h3:=stageR_stk (s:=sT E t10) (by rw [stageR_sT];exact h2) ((hEnd hk).2 (fun hl=>hA ⟨hk,hl⟩))
       exact fun _=>⟨h3.1.symm,h3.2.symm⟩
      ·rw [if_neg hk,h2] at hst
       exact stagesR_stk _ _ _ _ _ _ _ hst
     ·rw [if_neg hk,h2] at hst
      exact hst
    have hgo:((pn E t10).kind == 0) = false ∨ (((pn E t10).kind == 0) = true ∧ (E.lex == 0) = false):=by
     by_cases hk:(pn E t10).kind = 0
     ·right
      refine ⟨by rw [hk];rfl,?_⟩
      have:E.lex ≠ 0:=fun hl=>hA ⟨hk,hl⟩
      simpa using this
     ·left;simpa using hk
    clear hst hA hEnd hc10
    obtain ⟨tk0,htk⟩:∃ t,pn E t10 = t:=⟨_,rfl⟩
    rw [htk] at HN2 hgo
    clear htk
    obtain ⟨kd,u,nm,a⟩:=tk0
    simp only at hgo
    rcases hgo with hkb | ⟨hkb,hlb⟩
    ·go_wp2_with fail
     refine (HN2.out _ HS12.out.P).mono ?_;rintro e w13 ⟨rfl,hbw13⟩
     have HS13:=Lib.hid (HS12.out.call (HS12.out.P.below hbw13) (Turned.of_below hbw13))
     clear hbw13
     clear HN2 HS12
     go_wp2_with fail
     go_roundg k'
     case rel=>exact ⟨k2,t10,a2,n2,S2,HS13.out,HB.out,HK2.out.1,HK2.out.2.1,HK2.out.2.2.1,HK2.out.2.2.2⟩
     case measure=>omega
    ·go_wp2_with fail
     refine (HN2.out _ HS12.out.P).mono ?_;rintro e w13 ⟨rfl,hbw13⟩
     have HS13:=Lib.hid (HS12.out.call (HS12.out.P.below hbw13) (Turned.of_below hbw13))
     clear hbw13
     clear HN2 HS12
     have hcs:=HS13.out.P.cells
     have q2:=hcs.c2
     have hpl:=HS13.out.P.lt
     clear hcs
     go_wp2_with fail
     go_roundg k'
     case rel=>exact ⟨k2,t10,a2,n2,S2,HS13.out,HB.out,HK2.out.1,HK2.out.2.1,HK2.out.2.2.1,HK2.out.2.2.2⟩
     case measure=>omega
end Go.Proofs.YtmfpmandkhiknaaGreatDoor.qar
namespace Go.Proofs.YtmfpmandkhiknaaGreatDoor.qar
open par
open Go.RowKit
open heap
open lex (Tk TRow TkAt run_store_float add0)
set_option maxRecDepth 100000
attribute [local go_sem] run_store_float field_tok0 field_tok1 field_tok3
theorem assert_wrong (a c:Int) (w:World):(Instr.typeAssert (wrongV a c) 20 127 true).run Tryz.prog w = .ok (.tuple #[.agg #[.int .i64 a,.int .i64 c],.bool true]) w:=by kernel_rfl
theorem neq_wrong (a c:Int) (w:World):(binOp .neq 20 (wrongV a c) .nilIface).run Tryz.prog w = .ok (.bool true) w:=by kernel_rfl
theorem set5_at {W:World} {b:Nat} {u0 u1 u2 u3 u4:Value} {t:TypeId} (h:W.heap[b]? = some (.cells #[u0,u1,u2,u3,u4] t (0,0))) (x0 x1 x2 x3 x4:Value) :
  (((((W.setCell ⟨b,0,none⟩ x0).setCell ⟨b,1,none⟩ x1).setCell ⟨b,2,none⟩ x2).setCell ⟨b,3,none⟩ x3).setCell ⟨b,4,none⟩ x4).heap[b]? = some (.cells #[x0,x1,x2,x3,x4] t (0,0)):=
 blk_set (blk_set (blk_set (blk_set (blk_set h 0 x0) 1 x1) 2 x2) 3 x3) 4 x4
structure ResAt (w:World) (b4 b5 b6:Nat) (u0 u1 u2 u3 u4 u5 u6:Value):Prop where
 r4:w.heap[b4]? = some (.cells #[u0,u1,u2,u3,u4] 61 (0,0))
 r5:w.heap[b5]? = some (.cells #[u5] 3 (0,0))
 r6:w.heap[b6]? = some (.cells #[u6] 25 (0,0))
theorem ResAt.turned {w w':World} {b4 b5 b6:Nat} {u0 u1 u2 u3 u4 u5 u6:Value} {S:List Nat} (h:ResAt w b4 b5 b6 u0 u1 u2 u3 u4 u5 u6) (ht:Turned S w w') (h4:b4 ∉ S) (h5:b5 ∉ S) (h6:b6 ∉ S):ResAt w' b4 b5 b6 u0 u1 u2 u3 u4 u5 u6:=
 ⟨ht.kept h.r4 h4,ht.kept h.r5 h5,ht.kept h.r6 h6⟩
theorem ResAt.set4 {w:World} {b4 b5 b6:Nat} {u0 u1 u2 u3 u4 u5 u6:Value} (h:ResAt w b4 b5 b6 u0 u1 u2 u3 u4 u5 u6) (n5:b5 ≠ b4) (n6:b6 ≠ b4) (x0 x1 x2 x3 x4:Value) :
  ResAt (((((w.setCell ⟨b4,0,none⟩ x0).setCell ⟨b4,1,none⟩ x1).setCell ⟨b4,2,none⟩ x2).setCell ⟨b4,3,none⟩ x3).setCell ⟨b4,4,none⟩ x4) b4 b5 b6 x0 x1 x2 x3 x4 u5 u6:=
 have ht:Turned [b4] w (((((w.setCell ⟨b4,0,none⟩ x0).setCell ⟨b4,1,none⟩ x1).setCell ⟨b4,2,none⟩ x2).setCell ⟨b4,3,none⟩ x3).setCell ⟨b4,4,none⟩ x4):=(((((Turned.refl _ _).setCell (by simp) _).setCell (by simp) _).setCell (by simp) _).setCell (by simp) _).setCell (by simp) _
 ⟨set5_at h.r4 _ _ _ _ _,ht.kept h.r5 (by simpa using n5),ht.kept h.r6 (by simpa using n6)⟩
theorem ResAt.set5 {w:World} {b4 b5 b6:Nat} {u0 u1 u2 u3 u4 u5 u6:Value} (h:ResAt w b4 b5 b6 u0 u1 u2 u3 u4 u5 u6) (n4:b4 ≠ b5) (n6:b6 ≠ b5) (x:Value):ResAt (w.setCell ⟨b5,0,none⟩ x) b4 b5 b6 u0 u1 u2 u3 u4 x u6:=
 have ht:Turned [b5] w (w.setCell ⟨b5,0,none⟩ x):=(Turned.refl _ _).setCell (by simp) _
 ⟨ht.kept h.r4 (by simpa using n4),blk_set h.r5 0 x,ht.kept h.r6 (by simpa using n6)⟩
theorem ResAt.set6 {w:World} {b4 b5 b6:Nat} {u0 u1 u2 u3 u4 u5 u6:Value} (h:ResAt w b4 b5 b6 u0 u1 u2 u3 u4 u5 u6) (n4:b4 ≠ b6) (n5:b5 ≠ b6) (x:Value):ResAt (w.setCell ⟨b6,0,none⟩ x) b4 b5 b6 u0 u1 u2 u3 u4 u5 x:=
 have ht:Turned [b6] w (w.setCell ⟨b6,0,none⟩ x):=(Turned.refl _ _).setCell (by simp) _
 ⟨ht.kept h.r4 (by simpa using n4),ht.kept h.r5 (by simpa using n5),blk_set h.r6 0 x⟩
theorem ResAt.alloc {w:World} {b4 b5 b6:Nat} {u0 u1 u2 u3 u4 u5 u6:Value} (h:ResAt w b4 b5 b6 u0 u1 u2 u3 u4 u5 u6) (o:Obj):ResAt (w.alloc o) b4 b5 b6 u0 u1 u2 u3 u4 u5 u6:=⟨blk_old h.r4 o,blk_old h.r5 o,blk_old h.r6 o⟩
theorem ResAt.drew {w:World} {b4 b5 b6:Nat} {u0 u1 u2 u3 u4 u5 u6:Value} (h:ResAt w b4 b5 b6 u0 u1 u2 u3 u4 u5 u6):ResAt w.drew b4 b5 b6 u0 u1 u2 u3 u4 u5 u6:=⟨h.r4,h.r5,h.r6⟩
structure ResC (w:World) (b4 b5 b6:Nat) (u0 u1 u2 u3 u4 u5 u6:Value):Prop where
 c0:w.cell? ⟨b4,0,none⟩ = some u0
 c1:w.cell? ⟨b4,1,none⟩ = some u1
 c2:w.cell? ⟨b4,2,none⟩ = some u2
 c3:w.cell? ⟨b4,3,none⟩ = some u3
 c4:w.cell? ⟨b4,4,none⟩ = some u4
 c5:w.cell? ⟨b5,0,none⟩ = some u5
 c6:w.cell? ⟨b6,0,none⟩ = some u6
 f0:w.frozen? ⟨b4,0,none⟩ = false
 f1:w.frozen? ⟨b4,1,none⟩ = false
 f2:w.frozen? ⟨b4,2,none⟩ = false
 f3:w.frozen? ⟨b4,3,none⟩ = false
 f4:w.frozen? ⟨b4,4,none⟩ = false
 f5:w.frozen? ⟨b5,0,none⟩ = false
 f6:w.frozen? ⟨b6,0,none⟩ = false
 l4:b4 < w.heap.size
 l5:b5 < w.heap.size
 l6:b6 < w.heap.size
theorem ResAt.cells {w:World} {b4 b5 b6:Nat} {u0 u1 u2 u3 u4 u5 u6:Value} (h:ResAt w b4 b5 b6 u0 u1 u2 u3 u4 u5 u6):ResC w b4 b5 b6 u0 u1 u2 u3 u4 u5 u6:=
 ⟨blk_cell h.r4 0,blk_cell h.r4 1,blk_cell h.r4 2,blk_cell h.r4 3,blk_cell h.r4 4,blk_cell h.r5 0,blk_cell h.r6 0,blk_free h.r4 0,blk_free h.r4 1,blk_free h.r4 2,blk_free h.r4 3,blk_free h.r4 4,blk_free h.r5 0,blk_free h.r6 0,blk_lt h.r4,blk_lt h.r5,blk_lt h.r6⟩
set_option maxHeartbeats 4000000 in
theorem read1_panic (b4 b5 b6:Nat) (u0 u1 u2 u3 u4 u5 u6:Value) (a c:Int) (w:World) (h:ResAt w b4 b5 b6 u0 u1 u2 u3 u4 u5 u6) (n45:b4 ≠ b5) (n46:b4 ≠ b6) (n56:b5 ≠ b6) :
  CallsD Tryz.prog 67 #[.pointer (some ⟨b4,0,none⟩),.pointer (some ⟨b5,0,none⟩),.pointer (some ⟨b6,0,none⟩)] (.panicking [{ v:=wrongV a c,recovered:=false }]) w fun e u' w'=>e = .returned (.tuple #[]) ∧ u' = .panicking [{ v:=wrongV a c,recovered:=true }] ∧
   ResAt w' b4 b5 b6 (.int .i64 0) (.string ⟨#[]⟩) (.float .f64 0) (.slice none 0 0) (.int .i64 0) (.int .i64 a) (.int .i64 c) ∧ Turned [b4,b5,b6] w w':=by
 have HR:=Lib.hid h
 obtain ⟨c0,c1,c2,c3,c4,c5,c6,f0,f1,f2,f3,f4,f5,f6,l4,l5,l6⟩:=h.cells
 clear h
 have hta:=assert_wrong a c
 refine callsD_of_wpS Tryz.func67 rfl fun c₀ cs hu => ?_
 apply wpS_seq
 apply wpS_region
 simp [wpOpsS,go_sem,recoverD,hu,Tryz.ntmps67,Exit.thenS]
 refine wpS_of_wp ?_
 simp only [Array.replicate_succ,Array.replicate_zero,List.push_toArray,List.nil_append,List.cons_append,List.append_toArray,List.setIfInBounds_toArray,List.set_cons_succ,List.set_cons_zero]
 have hnq:=neq_wrong a c
 clear hu
 go_wp2_with fail
 go_region
 all_goals
  go_wp2_with fail
  have hr:=((((HR.out.set4 (Ne.symm n45) (Ne.symm n46) (.int .i64 0) (.string ⟨#[]⟩) (.float .f64 0) (.slice none 0 0) (.int .i64 0)).set5 n45 (Ne.symm n56) (.int .i64 a)).set6 n46 n56 (.int .i64 c)).alloc (.cells #[.int .i64 a,.int .i64 c] 127 (0,0))).drew
  have ht:Turned [b4,b5,b6] w _:=(((((((((Turned.refl [b4,b5,b6] w).setCell (p:=⟨b4,0,none⟩) (by simp) (.int .i64 0)).setCell (p:=⟨b4,1,none⟩) (by simp) (.string ⟨#[]⟩)).setCell (p:=⟨b4,2,none⟩) (by simp) (.float .f64 0)).setCell (p:=⟨b4,3,none⟩) (by simp) (.slice none 0 0)).setCell (p:=⟨b4,4,none⟩) (by simp) (.int .i64 0)).setCell (p:=⟨b5,0,none⟩) (by simp) (.int .i64 a)).setCell (p:=⟨b6,0,none⟩) (by simp) (.int .i64 c)).alloc (.cells #[.int .i64 a,.int .i64 c] 127 (0,0))).drew
  generalize World.drew _ = wf at hr ht ⊢
  simp [bodyPostS,results,Tryz.results67,hr,ht]
theorem read1_idle (b4 b5 b6:Nat) (w:World) :
  CallsD Tryz.prog 67 #[.pointer (some ⟨b4,0,none⟩),.pointer (some ⟨b5,0,none⟩),.pointer (some ⟨b6,0,none⟩)] .returning w fun e u' w'=>e = .returned (.tuple #[]) ∧ u' = .returning ∧ w' = w:=by
 refine callsD_of_wpS Tryz.func67 rfl fun c₀ cs hu => ?_
 apply wpS_seq
 apply wpS_region
 simp [wpOpsS,go_sem,recoverD,hu,Tryz.ntmps67,Exit.thenS]
 refine wpS_of_wp ?_
 simp only [Array.replicate_succ,Array.replicate_zero,List.push_toArray,List.nil_append,List.cons_append,List.append_toArray,List.setIfInBounds_toArray,List.set_cons_succ,List.set_cons_zero]
 have hnq:∀ w,(binOp .neq 20 .nilIface .nilIface).run Tryz.prog w = .ok (.bool false) w:=fun w=>by kernel_rfl
 go_wp2_with fail
 cases c₀
 simp_all [bodyPostS,results,Tryz.results67]
end Go.Proofs.YtmfpmandkhiknaaGreatDoor.qar
