/-
  Proved: plain facts on the document's parser: a block as the program reads it. Conditions: as each theorem says. No program is in sight.
  Proved: what block, blocked of the program's parser leave. Conditions: as each theorem says.
  Proved: what blocked of the program's parser leaves. Conditions: as each theorem says.
  Proved: what stmt of the program's parser leaves where no word stands, at do, fail, while. Conditions: as each theorem says.
-/
import Derived.Test.YtmfpmandkhiknaaGreatDoorPu15
set_option linter.unusedVariables false
set_option linter.unusedSimpArgs false
namespace Go.Proofs.YtmfpmandkhiknaaGreatDoor.par
open Go Go.RowKit
open lex (Tk)
def blkP (E:PE):Nat → List Nd → PS → Option (List Nd × PS)
 | 0,_,_=>none
 | k + 1,ks,t=>if (sT E t).code ≠ 0 then some (ks,sT E t) else if isS E [125] t then some (ks,inc (sT E t)) else match run E k .stmt t with
  | some ([x],s2)=>blkP E k (ks ++ [x]) s2
  | _=>none
theorem blkP_sT {E:PE} (k:Nat) (ks:List Nd) (t:PS):blkP E k ks (sT E t) = blkP E k ks t:=by
 cases k with
 | zero=>rw [blkP,blkP]
 | succ k=>rw [blkP,blkP,sT_sT,isS_sT,run_sT2 E k .stmt t (fun _ h=>by cases h)]
theorem Al.blkP {E:PE} {t s:PS} (h:Al E t s) (k:Nat) (ks:List Nd):par.blkP E k ks s = par.blkP E k ks t:=by
 rcases h with rfl | rfl
 ·rfl
 ·exact blkP_sT k ks t
theorem blkP_stk {E:PE}:∀ (k:Nat) (ks:List Nd) (t:PS) (kf:List Nd) (s9:PS),blkP E k ks t = some (kf,s9) → Stk t s9:=by
 intro k
 induction k with
 | zero=>intro ks t kf s9 h;rw [blkP] at h;cases h
 | succ k ih =>
  intro ks t kf s9 h
  rw [blkP] at h
  split at h
  ·cases h;exact stk_sT E t
  ·split at h
   ·cases h;exact (stk_sT E t).trans (stk_inc _)
   ·cases hr:run E k .stmt t with
    | none=>rw [hr] at h;cases h
    | some r =>
     obtain ⟨xs,s2⟩:=r
     rw [hr] at h
     match xs,h with
     | [],h=>cases h
     | _ :: _ :: _,h=>cases h
     | [x],h=>exact (run_stk E _ _ _ _ _ hr).trans (ih _ _ _ _ h)
theorem blk_P {E:PE}:∀ (k:Nat) (ks:List Nd) (s:PS) (kf:List Nd) (sf:PS),run E k (.blockL ks) s = some (kf,sf) →
  ∃ kf2 s9,blkP E k ks s = some (kf2,s9) ∧ s9.code = (must E [125] sf).code ∧ s9.bad = (must E [125] sf).bad ∧ (s9.code = 0 → kf2 = kf ∧ s9 = must E [125] sf):=by
 intro k
 induction k with
 | zero=>intro ks s kf sf h;rw [run] at h;cases h
 | succ k ih =>
  intro ks s kf sf h
  rw [run] at h
  rw [blkP]
  by_cases hc:s.code = 0
  ·rw [if_neg (show ¬ s.code ≠ 0 from fun h=>h hc)] at h
   by_cases h5:isS E [125] s = true
   ·have hsT:=(tk_kind (E:=E) (s:=s) (by rw [(isS_kind h5).1];decide)).2.2
    rw [if_pos h5] at h
    cases h
    rw [hsT,if_neg (show ¬ s.code ≠ 0 from fun h=>h hc),if_pos h5]
    have:must E [125] s = inc s:=by unfold must;rw [if_pos h5,hsT]
    rw [this]
    exact ⟨_,_,rfl,rfl,rfl,fun _=>⟨rfl,rfl⟩⟩
   ·rw [if_neg h5] at h
    cases hr:run E k .stmt (sT E s) with
    | none=>rw [hr] at h;cases h
    | some r =>
     obtain ⟨xs,s2⟩:=r
     rw [hr] at h
     match xs,h with
     | [],h=>cases h
     | _ :: _ :: _,h=>cases h
     | [x],h =>
      simp only at h
      by_cases h0:(sT E s).code = 0
      ·rw [if_neg (show ¬ (sT E s).code ≠ 0 from fun h=>h h0),if_neg h5]
       rw [run_sT2 E k .stmt s (fun _ h=>by cases h)] at hr
       rw [hr]
       exact ih _ _ _ _ h
      ·rw [if_pos h0]
       obtain ⟨e1,e2⟩:=run_stk E _ _ _ _ _ hr h0
       have h2:s2.code ≠ 0:=by rw [e1];exact h0
       cases k with
       | zero=>rw [run] at hr;cases hr
       | succ k =>
        rw [run,if_pos h2] at h
        cases h
        rw [must_bad h2]
        exact ⟨_,_,rfl,e1.symm,e2.symm,fun h=>absurd h h0⟩
  ·rw [if_pos hc] at h
   cases h
   rw [sT_bad hc,if_pos hc,must_bad hc]
   exact ⟨_,_,rfl,rfl,rfl,fun h=>absurd h hc⟩
theorem no_token {E:PE} {s:PS} (hc:s.code = 0) (h:(sT E s).code ≠ 0):E.ts.length ≤ s.i:=by
 cases ht:E.ts[s.i]? with
 | none =>
  rw [List.getElem?_eq_none_iff] at ht
  exact ht
 | some t =>
  exfalso
  unfold sT at h
  rw [pT_ok hc ht] at h
  exact h hc
end Go.Proofs.YtmfpmandkhiknaaGreatDoor.par
namespace Go.Proofs.YtmfpmandkhiknaaGreatDoor.qar
open par
open Go.RowKit
open heap
open lex (Tk TRow TkAt run_store_float add0)
set_option maxRecDepth 100000
attribute [local go_sem] run_store_float field_tok0 field_tok1 field_tok3
def NodeS (p:Nat) (v:Value) (E:PE) (i:Nat) (s9:PS) (x:Nd) (w:World) (e:Ending) (w':World):Prop:=(i < s9.i ∧ NodeO p v E s9 x w e w') ∨ (s9.code ≠ 0 ∧ Thr p s9 w e w')
theorem NodeS.thr {p:Nat} {v:Value} {E:PE} {i:Nat} {s s9:PS} {x:Nd} {w W w':World} {e:Ending} (hc:s.code ≠ 0) (h:Thr p s W e w') (ht:Turned [p] w W) (hs:Stk s s9):NodeS p v E i s9 x w e w':=.inr ((h.from ht).stk hc hs)
def BlkJ (W:World) (p:Nat) (v:Value) (E:PE) (i0 bx br:Nat) (at':Int) (kf:List Nd) (s9:PS) (f k:Nat) (wr:World):Prop:=
 ∃ (ks:List Nd) (t:PS) (a:Option Addr) (n:Nat) (S:List Nat),SW W wr p v E t [(bx,ksO 8 [] a ks.length n at'),(br,ndO zero (.slice none 0 0))] [⟨ks,.slice a ks.length n,S⟩] ∧
  blkP E k ks t = some (kf,s9) ∧ 16 * par.ms E t + 3 ≤ k ∧ k ≤ f ∧ i0 < t.i ∧ ks.length + par.ms E t ≤ 200002
set_option maxHeartbeats 4000000 in
theorem blockX {p:Nat} {v:Value} {E:PE} {f:Nat} (J:∀ k,k ≤ f → QJobs p v E k) (s:PS) (kf:List Nd) (s9:PS) (W:World) (hf:16 * ms E s + 3 ≤ f)
  (hr:if isS E [123] s = true then blkP E f [] (inc s) = some (kf,s9) else s9.code = (wrong E s).code ∧ s9.bad = (wrong E s).bad) (hl:E.ts.length ≤ 100000) (h:PAt W p v E s) :
  Calls Tryz.prog 150 #[PP p] W (NodeS p v E s.i s9 (.mk 8 [] 0 kf (pn E s).at') W):=by
 have HS:=Lib.hid ((SW.start h).alloc (ndO zero (.slice none 0 0)))
 have hc:=h.c0
 have hle:=ms_le (s:=s) hl
 have HN:=Lib.hid (fun W h=>now_any p v E s W h)
 have HMS:=Lib.hid (fun W hW=>must_any p v E s [123] W hW)
 have hsT:isS E [123] s = true → sT E s = s ∧ ms E (inc s) + 1 ≤ ms E s:=fun h1=>by
  have h2:=(h.moreS h1).2.1
  have h3:=ms_inc (E:=E) (s:=s) (by rw [(isS_kind h1).1];decide)
  rw [h2] at h3
  exact ⟨h2,h3⟩
 have hmu:must E [123] s = if isS E [123] s = true then inc s else wrong E s:=by
  unfold must
  split
  ·rw [(hsT (by assumption)).1]
  ·rw [wrong_sT2]
 rw [hmu] at HMS
 have HJJ:=Lib.hid J
 clear J h hl hmu
 generalize isS E [123] s = b at *
 generalize pn E s = t at *
 have HR:Hid (16 * ms E s + 3 ≤ f ∧ ms E s ≤ 100001 ∧ s.code = 0 ∧ (b = true → ms E (inc s) + 1 ≤ ms E s) ∧ (if b = true then blkP E f [] (inc s) = some (kf,s9) else s9.code = (wrong E s).code ∧ s9.bad = (wrong E s).bad)):=⟨hf,hle,hc,fun h=>(hsT h).2,hr⟩
 clear hf hle hc hsT hr
 go_enter Tryz.func150,Tryz.ntmps150
 go_upto_region 1 with fail
 change Code.wp _ _ _ _ (W.alloc (ndO zero (.slice none 0 0)))
 generalize W.alloc (ndO zero (.slice none 0 0)) = w0 at *
 generalize hbr:W.heap.size = br at *
 go_wp2_with fail
 refine (HN.out _ HS.out.P).mono ?_;rintro e w1 ⟨rfl,hb1⟩
 have HS1:=Lib.hid ((HS.out.call (HS.out.P.below hb1) (Turned.of_below hb1)).alloc (ksO 8 [] none 0 0 t.at'))
 clear hb1 HN HS
 obtain ⟨kd,u,nm,a⟩:=t
 go_upto_region 2 with fail
 change Code.wp _ _ _ _ (w1.alloc (ksO 8 [] none 0 0 a))
 generalize w1.alloc (ksO 8 [] none 0 0 a) = w2 at *
 generalize w1.heap.size = bx at *
 go_wp2_with fail
 cases b with
 | false =>
  refine (HMS.out _ HS1.out.P).mono ?_
  rintro e w3 ⟨-,hbad⟩
  obtain ⟨rfl,hT⟩:=hbad (wrong_code E s)
  go_wp2_with fail
  obtain ⟨e1,e2⟩:=HR.out.2.2.2.2
  exact ⟨rfl,.inr ⟨by rw [e1];exact wrong_code E s,(Thr.from ⟨rfl,hT⟩ HS1.out.T).of e1 e2⟩⟩
 | true =>
  refine (HMS.out _ HS1.out.P).mono ?_
  rintro e w3 ⟨hok,-⟩
  obtain ⟨rfl,hP,hT⟩:=hok HR.out.2.2.1
  have HS3:=Lib.hid ((HS1.out.call hP hT).addNil)
  clear hP hT hok HMS HS1
  have HI0:Hid (BlkJ W p v E s.i bx br a kf s9 f f w3):=⟨[],inc s,none,0,[],HS3.out,HR.out.2.2.2.2,by have:=HR.out.1;have:=HR.out.2.2.2.1 rfl;omega,Nat.le_refl _,Nat.lt_succ_self _,by have:=HR.out.2.1;have:=HR.out.2.2.2.1 rfl;simp;omega⟩
  clear HS3 HR
  go_wp2_with fail
  go_loopg [] f (fun k wr=>BlkJ W p v E s.i bx br a kf s9 f k wr)
  case atStart=>exact HI0.out
  case round =>
   obtain ⟨ks,t,a4,n4,S4,hsw,hr,hm,hkf,hti,hlen⟩:=hrel
   have HS6:=Lib.hid hsw
   have hc:=hsw.P.c0
   have hple:=hsw.P.le
   obtain ⟨k',rfl⟩:∃ k',gk = k' + 1:=⟨gk - 1,by omega⟩
   have HSG:=Lib.hid (fun W h=>sign_any p v E t [125] _ W h rfl)
   rw [blkP] at hr
   have hsT:isS E [125] t = true → sT E t = t:=fun h1=>(hsw.P.moreS h1).2.1
   obtain ⟨y,s5,h1,-,-⟩:=(run_ends E k' .stmt t trivial (by simp only [rank];omega)).one rfl
   have h1':=h1
   rw [← run_sT2 E k' .stmt t (fun _ h=>by cases h)] at h1'
   have hstk:=run_stk E _ _ _ _ _ h1'
   have HZ:Hid (Stk s5 s9 ∨ isS E [125] t = true):=by
    unfold Hid
    split at hr
    ·rename_i h0
     cases hr
     obtain ⟨e1,e2⟩:=hstk h0
     exact .inl fun _=>⟨e1.symm,e2.symm⟩
    ·split at hr
     ·right;assumption
     ·rw [h1] at hr
      exact .inl (blkP_stk _ _ _ _ _ hr)
   have HR:Hid (isS E [125] t = false → (sT E t).code = 0 → blkP E k' (ks ++ [y]) s5 = some (kf,s9)):=fun h5 h0=>by
    rw [if_neg (show ¬ (sT E t).code ≠ 0 from fun h=>h h0),if_neg (by rw [h5];decide),h1] at hr
    exact hr
   have HX:Hid (isS E [125] t = true → kf = ks ∧ s9 = inc t):=fun h5=>by
    have:=hsT h5
    rw [this,if_neg (show ¬ t.code ≠ 0 from fun h=>h hc),if_pos h5] at hr
    cases hr
    exact ⟨rfl,rfl⟩
   have HJ2:=Lib.hid (fun W h=>(HJJ.out k' (by omega)).stmt t y s5 W (by simp only [rank];omega) h1 h)
   have HK:Hid (16 * ms E t + 3 ≤ k' + 1 ∧ k' + 1 ≤ f ∧ s.i < t.i ∧ ks.length + ms E t ≤ 200002 ∧ t.code = 0):=⟨hm,hkf,hti,hlen,hc⟩
   clear hsw hr hm hkf hti hlen hc h1 h1' hstk hsT hple HI0
   generalize isS E [125] t = bq at *
   go_wp2_with fail
   refine (HSG.out _ HS6.out.P).mono ?_;rintro e w7 ⟨rfl,hP,hT⟩
   have HS7:=Lib.hid (HS6.out.call hP hT)
   clear hP hT HSG HS6
   cases bq with
   | true =>
    obtain ⟨rfl,rfl⟩:=HX.out rfl
    clear HX HR HZ HJ2 HJJ
    obtain ⟨y0,y1,y2,y3,y4,yf0,yf1,yf2,yf3,yf4,yl⟩:=HS7.out.c5 0 rfl
    obtain ⟨r0,r1,r2,r3,r4,rf0,rf1,rf2,rf3,rf4,rl⟩:=HS7.out.c5 1 rfl
    go_wp2_with fail
    have HSH:=Lib.hid (HS7.out.set5 1 rfl (.int .i64 8) (.string ⟨#[]⟩) (.float .f64 0) (.slice a4 kf.length n4) (.int .i64 a))
    clear HS7
    generalize (((((w7.setCell _ _).setCell _ _).setCell _ _).setCell _ _).setCell _ _) = wf at HSH ⊢
    obtain ⟨z0,z1,z2,z3,z4,zf0,zf1,zf2,zf3,zf4,zl⟩:=HSH.out.c5 1 rfl
    refine bodyPost_ret (v:=.agg #[.int .i64 8,.string ⟨#[]⟩,.float .f64 0,.slice a4 kf.length n4,.int .i64 a]) (by simp [results,Tryz.results150,go_sem,z0,z1,z2,z3,z4]) rfl ?_
    exact .inl ⟨by have:=HK.out.2.2.1;show s.i < t.i + 1;omega,HSH.out.node (List.mem_cons_self ..) (.mk 8 [] 0 kf a) rfl⟩
   | false =>
    have HZ2:Hid (Stk s5 s9):=HZ.out.resolve_right (by decide)
    clear HZ HX
    simp only [Bool.false_eq_true,↓reduceIte] at HS7
    obtain ⟨y0,y1,y2,y3,y4,yf0,yf1,yf2,yf3,yf4,yl⟩:=HS7.out.c5 0 rfl
    go_wp2_with fail
    go_region_law
     (first
      | (obtain ⟨a2,n2,w11,S2,hrun,hsw⟩:=((HS10.out.alloc (ndO y (.slice a10 y.kids.length n10))).drop _ ((List.Sublist.refl _).cons _)).appendS y rfl w10.heap.size (blk_new _ _) (by have:=HK.out.2.2.2.1;simp only;omega)
         have HRUN:=Lib.hid hrun
         have HS11:=Lib.hid hsw
         clear hrun hsw
         obtain ⟨r0,r1,r2,r3,r4,rf0,rf1,rf2,rf3,rf4,rl⟩:=HS11.out.c5 0 rfl
         refine step_append_run (by rfl) (by rfl) (by rfl) (by rfl) (by rfl) HRUN.out ?_)
      | (go_simp
         go_at_call 80
         refine (HJ2.out _ (by first | exact HS7.out.P | exact HS7.out.drew.P)).mono ?_
         rintro e w10 hnr
         rcases hnr with ⟨t10,ht,hi,a10,n10,S10,rfl,hk,hS,hP,hT⟩ | ⟨hc,rfl,hT⟩
         rotate_left
         · go_wp2_with fail
           exact ⟨rfl,.thr hc ⟨rfl,hT⟩ HS7.out.drew.T HZ2.out⟩
         have HS10:=Lib.hid (HS7.out.drew.callT hk hS hP hT)
         have HA10:=Lib.hid (And.intro ht hi)
         clear hk hS hP hT ht hi
         obtain ⟨r0,r1,r2,r3,r4,rf0,rf1,rf2,rf3,rf4,rl⟩:=HS10.out.c5 0 rfl))
    all_goals
     have h0:(sT E t).code = 0:=Classical.byContradiction fun h0=>by
      have h1:=no_token HK.out.2.2.2.2 h0
      have h2:=HS10.out.P.le
      have h3:=HA10.out.2
      have h4:=pts_len E
      split at h4 <;> omega
     have HB:Hid (BlkJ W p v E s.i bx br a kf s9 f k' (w11.setCell ⟨bx,3,none⟩ (.slice a2 (ks.length + 1) n2))):=⟨ks ++ [y],t10,a2,n2,S2,by
      have:=HS11.out.setL 0 rfl 3 (.slice a2 (ks ++ [y]).length n2)
      rw [List.length_append] at this ⊢
      exact this,by
      have:=HR.out (by trivial) h0
      rw [Al.blkP HA10.out.1] at this
      exact this,by
      have:=HS11.out.P.ms HK.out.2.2.2.2 HA10.out.2
      have:=HK.out.1
      omega,by have:=HK.out.2.1;omega,by have:=HK.out.2.2.1;have:=HA10.out.2;omega,by
      have:=HS11.out.P.ms HK.out.2.2.2.2 HA10.out.2
      have:=HK.out.2.2.2.1
      rw [List.length_append]
      simp only [List.length_cons,List.length_nil]
      omega⟩
     clear HS11 HRUN HK HS7 HJ2 HS10 HR HZ2 HA10 h0
     go_wp2_with fail
     go_roundg k'
     case rel=>exact HB.out
     case measure=>omega
set_option maxHeartbeats 1000000 in
theorem test_any (p q:Nat) (v:Value) (E:PE) (s:PS) (b:Bool) (w:World) (h:PAt w p v E s) (hb:isS E [123] s = b) (hq:w.cell? ⟨q,0,none⟩ = some (PP p)) :
  Calls Tryz.prog 149 #[.pointer (some ⟨q,0,none⟩)] w fun e w'=>e = .returned (.bool b) ∧ Below w.heap.size w w':=by
 have HI:=Lib.hid (is_any p v E s 4 [123] b w h ((pn_isS h.c0 [123]).trans hb))
 clear h hb
 go_enter Tryz.func149,Tryz.ntmps149
 go_wp2_with fail
 refine HI.out.mono ?_;rintro e w2 ⟨rfl,hb⟩
 have HB:=Lib.hid hb
 clear hb HI
 go_wp2_with fail
 go_ret
 exact ⟨rfl,HB.out⟩
set_option maxHeartbeats 1000000 in
theorem blockedX (p:Nat) (v:Value) (E:PE) (s s2:PS) (y:Nd) (w:World) (h:PAt w p v E s)
  (H:∀ W q,PAt W p v E s → W.cell? ⟨q,0,none⟩ = some (PP p) → Calls Tryz.prog 148 #[PP p,.func (.func 149) #[] #[.pointer (some ⟨q,0,none⟩)],.func (.func 150) #[PP p] #[]] W (NodeR p v E s.i s2 y W)) :
  Calls Tryz.prog 109 #[PP p] w (NodeR p v E s.i s2 y w):=by
 have HS:=Lib.hid (((SW.start h).alloc (.cells #[PP p] 94 (0,0))).allocAt (ndO zero (.slice none 0 0)) (w.heap.size + 1) (by simp))
 have HJ:=Lib.hid (fun W q=>H W q)
 clear H h
 go_enter Tryz.func109,Tryz.ntmps109
 go_upto_region 1 with fail
 change Code.wp _ _ _ _ ((w.alloc (.cells #[PP p] 94 (0,0))).alloc (ndO zero (.slice none 0 0)))
 generalize ((w.alloc (.cells #[PP p] 94 (0,0))).alloc (ndO zero (.slice none 0 0))) = w1 at *
 generalize w.heap.size = bq at *
 have hq:w1.cell? ⟨bq,0,none⟩ = some (PP p):=by rw [HS.out.cell 1 rfl 0];rfl
 have HQ:=Lib.hid (fun h=>HJ.out w1 bq h hq)
 go_wp2_with fail
 refine (HQ.out HS.out.P).mono ?_
 rintro e w2 hnr
 rcases hnr with ⟨tw2,htw2,hiw2,aw2,nw2,Sw2,rfl,hk,hS,hP,hT⟩ | ⟨hc,rfl,hT⟩
 rotate_left
 ·go_wp2_with fail
  exact ⟨rfl,.thr hc ⟨rfl,hT⟩ (HS.out).T (Stk.refl _)⟩
 have HS2:=Lib.hid (HS.out.callT hk hS hP hT)
 have HAw2:=Lib.hid (And.intro htw2 hiw2)
 clear hk hS hP hT htw2 hiw2
 obtain ⟨r0,r1,r2,r3,r4,rf0,rf1,rf2,rf3,rf4,rl⟩:=HS2.out.c5 0 rfl
 go_wp2_with fail
 have HSF:=Lib.hid (HS2.out.set5 0 rfl (.int .i64 y.kind) (.string ⟨y.text.toArray⟩) (.float .f64 y.num) (.slice aw2 y.kids.length nw2) (.int .i64 y.at'))
 generalize (((((w2.setCell _ _).setCell _ _).setCell _ _).setCell _ _).setCell _ _) = wf at HSF ⊢
 obtain ⟨z0,z1,z2,z3,z4,zf0,zf1,zf2,zf3,zf4,zl⟩:=HSF.out.c5 0 rfl
 refine bodyPost_ret (v:=ndV y (.slice aw2 y.kids.length nw2)) (by simp [results,Tryz.results109,go_sem,z0,z1,z2,z3,z4]) rfl ?_
 exact .ok HAw2.out.1 HAw2.out.2 (HSF.out.node (List.mem_cons_self ..) y rfl)
theorem isS_deep (E:PE) (g:List UInt8) (s:PS):isS E g (deepen s) = isS E g s:=by
 unfold isS
 have:tk E (deepen s) = tk E s:=tk_deep E s _
 rw [this]
theorem NodeS.node {p:Nat} {v:Value} {E:PE} {i:Nat} {s9 s2:PS} {x y:Nd} {w w':World} {e:Ending} (h:NodeS p v E i s9 x w e w') (h1:s9.code = s2.code) (h2:s9.bad = s2.bad) (h3:s9.code = 0 → x = y ∧ s9 = s2):NodeR p v E i s2 y w e w':=by
 rcases h with ⟨hi,hn⟩ | ⟨hc,hT⟩
 ·obtain ⟨a,n,S,_,_,_,hP,_⟩:=id hn
  obtain ⟨rfl,rfl⟩:=h3 hP.c0
  exact .ok (.inl rfl) hi hn
 ·exact .bad (by rw [← h1];exact hc) (hT.of h1.symm h2.symm)
theorem blockedJ {p:Nat} {v:Value} {E:PE} {f:Nat} (J:∀ k,k ≤ f → QJobs p v E k) (s:PS) (x:Nd) (s2:PS) (W:World) (hf:16 * ms E s + rank .block ≤ f + 1) (hr:run E (f + 1) .block s = some ([x],s2)) (h:PAt W p v E s) :
  Calls Tryz.prog 109 #[PP p] W (NodeR p v E s.i s2 x W):=by
 simp only [rank] at hf
 rw [run] at hr
 have hlt:(pts E).length ≤ 100000:=h.len
 have htl:E.ts.length ≤ 100000:=by
  have:=pts_len E
  split at this <;> omega
 have hmd:par.ms E (deepen s) = par.ms E s:=rfl
 refine blockedX p v E s s2 x W h fun W1 q hP hq => ?_
 have HT:∀ b,isS E [123] s = b → ∀ W3,Below W1.heap.size W1 W3 → Calls Tryz.prog 149 #[.pointer (some ⟨q,0,none⟩)] W3 fun e w'=>e = .returned (.bool b) ∧ Below W3.heap.size W3 w':=
  fun b hb W3 h3=>test_any p q v E s b W3 (hP.below h3) hb ((Turned.of_below (S := []) h3).cell hq (by simp))
 have hpd:pn E (deepen s) = pn E s:=rfl
 cases hb:isS E [123] s with
 | true =>
  obtain ⟨-,hsT,htk⟩:=h.moreS hb
  rw [hb,hsT,htk] at hr
  have hbd:isS E [123] (deepen s) = true:=by rw [isS_deep];exact hb
  have hmi:par.ms E (inc (deepen s)) < par.ms E s:=by
   have:=ms_inc (E:=E) (s:=s) (by rw [(isS_kind hb).1];decide)
   rw [hsT] at this
   exact this
  obtain ⟨ks,sf,h1,-,-⟩:=run_ends E f (.blockL []) (inc (deepen s)) trivial (by simp only [rank];omega)
  obtain ⟨kf,s9,h9,h9c,h9b,h9e⟩:=blk_P _ _ _ _ _ h1
  have HB:∀ W3,PAt W3 p v E (deepen s) → Calls Tryz.prog 150 #[PP p] W3 (NodeR p v E s.i (must E [125] sf) (.mk 8 [] 0 ks (pn E s).at') W3):=fun W3 h3 =>
   (blockX J (deepen s) kf s9 W3 (by omega) (by rw [if_pos hbd];exact h9) htl h3).mono fun e w' hn=>NodeS.node hn h9c h9b fun h0=>by
    obtain ⟨rfl,rfl⟩:=h9e h0
    exact ⟨rfl,rfl⟩
  refine (deepB p v E s true (must E [125] sf) _ W1 q hP (HT true hb) HB).mono fun e w' hd => ?_
  obtain ⟨hA,hB⟩:=hd
  by_cases hd:40 < s.deep
  ·have hi:into s (pn E s).at' = (false,flt s 1901 (pn E s).at'):=if_pos hd
   rw [hi,if_pos ⟨rfl,rfl⟩] at hr
   cases hr
   exact .bad (flt_code _ _ _ (by decide)) (hA hd)
  ·have hi:into s (pn E s).at' = (true,deepen s):=if_neg hd
   have hmu:must E [123] (deepen s) = inc (deepen s):=by
    unfold must
    rw [if_pos hbd]
    have:sT E (deepen s) = deepen s:=(tk_kind (E:=E) (s:=deepen s) (by rw [(isS_kind hbd).1];decide)).2.2
    rw [this]
   rw [hi,if_neg (by simp),if_pos rfl] at hr
   simp only at hr
   rw [hmu,h1] at hr
   cases hr
   exact hB hd
 | false =>
  rw [hb,if_neg (by simp),if_neg (by decide)] at hr
  have hmu:must E [123] (sT E s) = wrong E s:=by
   unfold must
   rw [isS_sT,hb,if_neg (by decide),sT_sT,wrong_sT2]
  rw [hmu] at hr
  have hw:=wrong_code E s
  obtain ⟨w1,w2⟩:=wrong_deep E s (wrap64 (s.deep + 1))
  have hs2:s2.code = (wrong E s).code ∧ s2.bad = (wrong E s).bad:=by
   cases f with
   | zero=>omega
   | succ f =>
    rw [run,if_pos hw] at hr
    simp only [must_bad hw] at hr
    cases hr
    exact ⟨rfl,rfl⟩
  have hbd:¬ isS E [123] (deepen s) = true:=by rw [isS_deep,hb];decide
  have HB:∀ W3,PAt W3 p v E (deepen s) → Calls Tryz.prog 150 #[PP p] W3 (NodeR p v E s.i (wrong E (deepen s)) (.mk 8 [] 0 [] (pn E s).at') W3):=fun W3 h3 =>
   (blockX J (deepen s) [] (wrong E (deepen s)) W3 (by omega) (by rw [if_neg hbd];exact ⟨rfl,rfl⟩) htl h3).mono fun e w' hn=>NodeS.node hn rfl rfl fun h0=>absurd h0 (wrong_code E _)
  refine (deepB p v E s false (wrong E (deepen s)) _ W1 q hP (HT false hb) HB).mono fun e w' hd => ?_
  obtain ⟨hA,hB⟩:=hd
  by_cases hd:40 < s.deep
  ·exact .bad (by rw [hs2.1];exact hw) ((hA hd).of hs2.1 hs2.2)
  ·rcases hB hd with ⟨t,ht,hi,-⟩ | ⟨hc,hT⟩
   ·exfalso
    have h1:(out (wrong E (deepen s))).i = s.i:=wrong_i _ _
    rw [al_i ht] at h1
    omega
   ·exact .bad (by rw [hs2.1];exact hw) (hT.of (hs2.1.trans w1.symm) (hs2.2.trans w2.symm))
theorem must_al_i {E:PE} {g:List UInt8} {s3 t:PS} (h:Al E t s3):t.i ≤ (par.must E g s3).i:=by
 rw [Al.must h]
 unfold par.must
 split
 ·exact Nat.le_succ_of_le (Nat.le_of_eq (sT_i E t).symm)
 ·rw [wrong_sT2,wrong_i];exact Nat.le_refl _
set_option maxHeartbeats 4000000 in
theorem stmt_bad {p:Nat} {v:Value} {E:PE} {f:Nat} (s:PS) (x:Nd) (s2:PS) (W:World) (hf:16 * ms E s + rank .stmt ≤ f + 1) (hr:run E (f + 1) .stmt s = some ([x],s2)) (h:PAt W p v E s) (h1:isW E wSet s = false) (h2:isW E wIf s = false) (h3:isW E wWhile s = false) (h4:isW E wDo s = false) (h5:isW E wFail s = false):Calls Tryz.prog 80 #[PP p] W (NodeR p v E s.i s2 x W):=by
 have HS:=Lib.hid (SW.start h)
 have HN:=Lib.hid (fun W h=>now_any p v E s W h)
 have HW1:=Lib.hid (fun W hW=>word_any p v E s wSet false W hW h1)
 have HW2:=Lib.hid (fun W hW=>word_any p v E s wIf false W hW h2)
 have HW3:=Lib.hid (fun W hW=>word_any p v E s wWhile false W hW h3)
 have HW4:=Lib.hid (fun W hW=>word_any p v E s wDo false W hW h4)
 have HW5:=Lib.hid (fun W hW=>word_any p v E s wFail false W hW h5)
 have HBD:=Lib.hid (fun W hW=>bad_any p v E s W hW)
 rw [run,if_neg (by have:isW E [115,101,116] s = false:=h1;rw [this];decide),if_neg (by have:isW E [105,102] s = false:=h2;rw [this];decide),if_neg (by have:isW E [119,104,105,108,101] s = false:=h3;rw [this];decide),if_neg (by have:isW E [100,111] s = false:=h4;have h5':isW E [102,97,105,108] s = false:=h5;rw [this,h5'];decide)] at hr
 cases hr
 rw [wrong_sT2]
 have HW:=Lib.hid (wrong_code E s)
 clear hf h h1 h2 h3 h4 h5
 generalize tk E s = t' at *
 generalize pn E s = t at *
 obtain ⟨kd,u,nm,a⟩:=t
 go_enter Tryz.func80,Tryz.ntmps80
 go_upto_region 1 with fail
 have HS0:=Lib.hid (HS.out.alloc (ndO zero (.slice none 0 0)))
 clear HS
 change Code.wp _ _ _ _ (W.alloc (ndO zero (.slice none 0 0)))
 generalize W.alloc (ndO zero (.slice none 0 0)) = w0 at *
 generalize W.heap.size = br at *
 go_wp2_with fail
 refine (HN.out _ HS0.out.P).mono ?_;rintro e w1 ⟨rfl,hb1⟩
 have HS3:=Lib.hid ((HS0.out.call (HS0.out.P.below hb1) (Turned.of_below hb1)).alloc (ksO 0 [] none 0 0 a))
 clear hb1 HN HS0
 go_upto_region 3 with fail
 change Code.wp _ _ _ _ (w1.alloc (ksO 0 [] none 0 0 a))
 generalize w1.alloc (ksO 0 [] none 0 0 a) = w3 at *
 generalize w1.heap.size = bx at *
 go_wp2_with fail
 refine (HW1.out _ HS3.out.P).mono ?_;rintro e wa ⟨rfl,hP,hT⟩
 have HSa:=Lib.hid (HS3.out.call hP hT)
 clear hP hT HW1 HS3
 go_wp2_with fail
 refine (HW2.out _ HSa.out.P).mono ?_;rintro e wb ⟨rfl,hP,hT⟩
 have HSb:=Lib.hid (HSa.out.call hP hT)
 clear hP hT HW2 HSa
 go_wp2_with fail
 refine (HW3.out _ HSb.out.P).mono ?_;rintro e wc ⟨rfl,hP,hT⟩
 have HSc:=Lib.hid (HSb.out.call hP hT)
 clear hP hT HW3 HSb
 go_wp2_with fail
 refine (HW4.out _ HSc.out.P).mono ?_;rintro e wd ⟨rfl,hP,hT⟩
 have HSd:=Lib.hid (HSc.out.call hP hT)
 clear hP hT HW4 HSc
 go_wp2_with fail
 refine (HW5.out _ HSd.out.P).mono ?_;rintro e we ⟨rfl,hP,hT⟩
 have HSe:=Lib.hid (HSd.out.call hP hT)
 clear hP hT HW5 HSd
 go_wp2_with fail
 refine (HBD.out _ HSe.out.P).mono ?_;rintro e w8 ⟨rfl,hT⟩
 exact ⟨rfl,.thr HW.out ⟨rfl,hT⟩ HSe.out.T (Stk.refl _)⟩
set_option maxHeartbeats 4000000 in
theorem stmt_do {p:Nat} {v:Value} {E:PE} {f:Nat} (J:∀ k,k ≤ f → QJobs p v E k) (s:PS) (x:Nd) (s2:PS) (W:World) (hf:16 * ms E s + rank .stmt ≤ f + 1) (hr:run E (f + 1) .stmt s = some ([x],s2)) (h:PAt W p v E s) (h1:isW E wSet s = false) (h2:isW E wIf s = false) (h3:isW E wWhile s = false) (h4:isW E wDo s = true):Calls Tryz.prog 80 #[PP p] W (NodeR p v E s.i s2 x W):=by
 have HS:=Lib.hid (SW.start h)
 have HN:=Lib.hid (fun W h=>now_any p v E s W h)
 have HW1:=Lib.hid (fun W hW=>word_any p v E s wSet false W hW h1)
 have HW2:=Lib.hid (fun W hW=>word_any p v E s wIf false W hW h2)
 have HW3:=Lib.hid (fun W hW=>word_any p v E s wWhile false W hW h3)
 have HW4:=Lib.hid (fun W hW=>(word_any p v E s wDo true W hW h4:Calls Tryz.prog _ _ W (StpR p v E (inc s) (.bool true) W)))
 obtain ⟨hi,hsT,htk⟩:=h.moreW h4
 have hk:=isW_kind h4
 rw [htk] at hk
 have hmi:=ms_inc (E:=E) (s:=s) (by rw [htk,hk.1];decide)
 rw [hsT] at hmi
 simp only [rank] at hf
 rw [run,if_neg (by have:isW E [115,101,116] s = false:=h1;rw [this];decide),if_neg (by have:isW E [105,102] s = false:=h2;rw [this];decide),if_neg (by have:isW E [119,104,105,108,101] s = false:=h3;rw [this];decide),if_pos (by have:isW E [100,111] s = true:=h4;rw [this];rfl),hsT,htk] at hr
 cases hra:run E f (.bin 0) (inc s) with
 | none=>rw [hra] at hr;cases hr
 | some r =>
 obtain ⟨ys,s4⟩:=r
 rw [hra] at hr
 match ys,hr with
 | [],hr=>cases hr
 | _ :: _ :: _,hr=>cases hr
 | [y],hr =>
 simp only [hk.2] at hr
 rw [if_neg (by decide)] at hr
 cases hr
 have HJ:=Lib.hid (fun W hW=>(J f (Nat.le_refl _)).expr (inc s) y s4 W (by simp only [rank];omega) hra hW)
 clear hf h J hra hmi hsT htk h1 h2 h3 h4
 generalize pn E s = t at *
 obtain ⟨kd,u,nm,a⟩:=t
 go_enter Tryz.func80,Tryz.ntmps80
 go_upto_region 1 with fail
 have HS0:=Lib.hid (HS.out.alloc (ndO zero (.slice none 0 0)))
 clear HS
 change Code.wp _ _ _ _ (W.alloc (ndO zero (.slice none 0 0)))
 generalize W.alloc (ndO zero (.slice none 0 0)) = w0 at *
 generalize W.heap.size = br at *
 go_wp2_with fail
 refine (HN.out _ HS0.out.P).mono ?_;rintro e w1 ⟨rfl,hb1⟩
 have HS3:=Lib.hid ((HS0.out.call (HS0.out.P.below hb1) (Turned.of_below hb1)).alloc (ksO 0 [] none 0 0 a))
 clear hb1 HN HS0
 go_upto_region 3 with fail
 change Code.wp _ _ _ _ (w1.alloc (ksO 0 [] none 0 0 a))
 generalize w1.alloc (ksO 0 [] none 0 0 a) = w3 at *
 generalize w1.heap.size = bx at *
 go_wp2_with fail
 refine (HW1.out _ HS3.out.P).mono ?_;rintro e wa ⟨rfl,hP,hT⟩
 have HSa:=Lib.hid (HS3.out.call hP hT)
 clear hP hT HW1 HS3
 go_wp2_with fail
 refine (HW2.out _ HSa.out.P).mono ?_;rintro e wb ⟨rfl,hP,hT⟩
 have HSb:=Lib.hid (HSa.out.call hP hT)
 clear hP hT HW2 HSa
 go_wp2_with fail
 refine (HW3.out _ HSb.out.P).mono ?_;rintro e wc ⟨rfl,hP,hT⟩
 have HSc:=Lib.hid (HSb.out.call hP hT)
 clear hP hT HW3 HSb
 go_wp2_with fail
 refine (HW4.out _ HSc.out.P).mono ?_;rintro e wd ⟨rfl,hP,hT⟩
 have HSd:=Lib.hid (HSc.out.call hP hT)
 clear hP hT HW4 HSc
 go_wp2_with fail
 refine (HJ.out _ HSd.out.P).mono ?_
 rintro e w6 hnr
 rcases hnr with ⟨tw6,htw6,hiw6,aw6,nw6,Sw6,rfl,hk,hS,hP,hT⟩ | ⟨hc,rfl,hT⟩
 rotate_left
 ·go_wp2_with fail
  exact ⟨rfl,.thr hc ⟨rfl,hT⟩ (HSd.out).T (stk_must E [59] s4)⟩
 have HS6:=Lib.hid (HSd.out.callT hk hS hP hT)
 have HAw6:=Lib.hid (And.intro htw6 hiw6)
 clear hk hS hP hT htw6 hiw6
 have HMS:=Lib.hid (fun W hW=>must_any p v E tw6 [59] W hW)
 rw [← Al.must HAw6.out.1] at HMS
 clear HJ HSd
 obtain ⟨x0,x1,x2,x3,x4,xf0,xf1,xf2,xf3,xf4,xl⟩:=HS6.out.c5 0 rfl
 go_upto_region 21 with fail
 have HSd:=Lib.hid (SW.buildAt [_] ((HS6.out.setL 0 rfl 0 (.int .i64 12)).setL 0 rfl 3 (.slice (some ⟨w6.heap.size,0,none⟩) 1 1)) [y] rfl (by simp) w6.heap.size (by simp) #[.int .i64 y.kind,.string ⟨y.text.toArray⟩,.float .f64 y.num,.slice aw6 y.kids.length nw6,.int .i64 y.at'] rfl 1 rfl)
 generalize (World.alloc ((w6.setCell _ _).setCell _ _) _) = w7 at HSd ⊢
 clear HS6
 clear x0 x1 x2 x3 x4 xf0 xf1 xf2 xf3 xf4 xl
 go_wp2_with fail
 refine (HMS.out _ HSd.out.P).mono ?_
 rintro e w8 ⟨hok,hbad⟩
 rcases Classical.em ((must E [59] s4).code = 0) with hc | hc
 rotate_left
 ·obtain ⟨rfl,hT⟩:=hbad hc
  go_wp2_with fail
  exact ⟨rfl,.thr hc ⟨rfl,hT⟩ (HSd.out).T (Stk.refl _)⟩
 obtain ⟨rfl,hP,hT⟩:=hok hc
 have HS8:=Lib.hid (HSd.out.call hP hT)
 clear hP hT hok hbad hc
 clear HMS HSd
 obtain ⟨y0,y1,y2,y3,y4,yf0,yf1,yf2,yf3,yf4,yl⟩:=HS8.out.c5 0 rfl
 obtain ⟨r0,r1,r2,r3,r4,rf0,rf1,rf2,rf3,rf4,rl⟩:=HS8.out.c5 1 rfl
 go_wp2_with fail
 have HSH:=Lib.hid (HS8.out.set5 1 rfl (.int .i64 12) (.string ⟨#[]⟩) (.float .f64 0) (.slice (some ⟨w6.heap.size,0,none⟩) 1 1) (.int .i64 a))
 clear HS8
 generalize (((((w8.setCell _ _).setCell _ _).setCell _ _).setCell _ _).setCell _ _) = wf at HSH ⊢
 obtain ⟨z0,z1,z2,z3,z4,zf0,zf1,zf2,zf3,zf4,zl⟩:=HSH.out.c5 1 rfl
 refine bodyPost_ret (v:=.agg #[.int .i64 12,.string ⟨#[]⟩,.float .f64 0,.slice (some ⟨w6.heap.size,0,none⟩) 1 1,.int .i64 a]) (by simp [results,Tryz.results80,go_sem,z0,z1,z2,z3,z4]) rfl ?_
 exact .ok (.inl rfl) (by have h1:s.i + 1 < tw6.i:=HAw6.out.2;have:=must_al_i (g := [59]) HAw6.out.1;omega) (HSH.out.node (List.mem_cons_self ..) (.mk 12 [] 0 [y] a) rfl)
set_option maxHeartbeats 4000000 in
theorem stmt_fail {p:Nat} {v:Value} {E:PE} {f:Nat} (J:∀ k,k ≤ f → QJobs p v E k) (s:PS) (x:Nd) (s2:PS) (W:World) (hf:16 * ms E s + rank .stmt ≤ f + 1) (hr:run E (f + 1) .stmt s = some ([x],s2)) (h:PAt W p v E s) (h1:isW E wSet s = false) (h2:isW E wIf s = false) (h3:isW E wWhile s = false) (h4:isW E wDo s = false) (h5:isW E wFail s = true):Calls Tryz.prog 80 #[PP p] W (NodeR p v E s.i s2 x W):=by
 have HS:=Lib.hid (SW.start h)
 have HN:=Lib.hid (fun W h=>now_any p v E s W h)
 have HW1:=Lib.hid (fun W hW=>word_any p v E s wSet false W hW h1)
 have HW2:=Lib.hid (fun W hW=>word_any p v E s wIf false W hW h2)
 have HW3:=Lib.hid (fun W hW=>word_any p v E s wWhile false W hW h3)
 have HW4:=Lib.hid (fun W hW=>word_any p v E s wDo false W hW h4)
 have HW5:=Lib.hid (fun W hW=>(word_any p v E s wFail true W hW h5:Calls Tryz.prog _ _ W (StpR p v E (inc s) (.bool true) W)))
 obtain ⟨hi,hsT,htk⟩:=h.moreW h5
 have hk:=isW_kind h5
 rw [htk] at hk
 have hmi:=ms_inc (E:=E) (s:=s) (by rw [htk,hk.1];decide)
 rw [hsT] at hmi
 simp only [rank] at hf
 rw [run,if_neg (by have:isW E [115,101,116] s = false:=h1;rw [this];decide),if_neg (by have:isW E [105,102] s = false:=h2;rw [this];decide),if_neg (by have:isW E [119,104,105,108,101] s = false:=h3;rw [this];decide),if_pos (by have:isW E [100,111] s = false:=h4;have h5':isW E [102,97,105,108] s = true:=h5;rw [this,h5'];rfl),hsT,htk] at hr
 cases hra:run E f (.bin 0) (inc s) with
 | none=>rw [hra] at hr;cases hr
 | some r =>
 obtain ⟨ys,s4⟩:=r
 rw [hra] at hr
 match ys,hr with
 | [],hr=>cases hr
 | _ :: _ :: _,hr=>cases hr
 | [y],hr =>
 simp only [hk.2] at hr
 rw [if_pos (by trivial)] at hr
 cases hr
 have HJ:=Lib.hid (fun W hW=>(J f (Nat.le_refl _)).expr (inc s) y s4 W (by simp only [rank];omega) hra hW)
 clear hf h J hra hmi hsT htk h1 h2 h3 h4 h5
 generalize pn E s = t at *
 obtain ⟨kd,u,nm,a⟩:=t
 go_enter Tryz.func80,Tryz.ntmps80
 go_upto_region 1 with fail
 have HS0:=Lib.hid (HS.out.alloc (ndO zero (.slice none 0 0)))
 clear HS
 change Code.wp _ _ _ _ (W.alloc (ndO zero (.slice none 0 0)))
 generalize W.alloc (ndO zero (.slice none 0 0)) = w0 at *
 generalize W.heap.size = br at *
 go_wp2_with fail
 refine (HN.out _ HS0.out.P).mono ?_;rintro e w1 ⟨rfl,hb1⟩
 have HS3:=Lib.hid ((HS0.out.call (HS0.out.P.below hb1) (Turned.of_below hb1)).alloc (ksO 0 [] none 0 0 a))
 clear hb1 HN HS0
 go_upto_region 3 with fail
 change Code.wp _ _ _ _ (w1.alloc (ksO 0 [] none 0 0 a))
 generalize w1.alloc (ksO 0 [] none 0 0 a) = w3 at *
 generalize w1.heap.size = bx at *
 go_wp2_with fail
 refine (HW1.out _ HS3.out.P).mono ?_;rintro e wa ⟨rfl,hP,hT⟩
 have HSa:=Lib.hid (HS3.out.call hP hT)
 clear hP hT HW1 HS3
 go_wp2_with fail
 refine (HW2.out _ HSa.out.P).mono ?_;rintro e wb ⟨rfl,hP,hT⟩
 have HSb:=Lib.hid (HSa.out.call hP hT)
 clear hP hT HW2 HSa
 go_wp2_with fail
 refine (HW3.out _ HSb.out.P).mono ?_;rintro e wc ⟨rfl,hP,hT⟩
 have HSc:=Lib.hid (HSb.out.call hP hT)
 clear hP hT HW3 HSb
 go_wp2_with fail
 refine (HW4.out _ HSc.out.P).mono ?_;rintro e wd ⟨rfl,hP,hT⟩
 have HSd:=Lib.hid (HSc.out.call hP hT)
 clear hP hT HW4 HSc
 go_wp2_with fail
 refine (HW5.out _ HSd.out.P).mono ?_;rintro e we ⟨rfl,hP,hT⟩
 have HSe:=Lib.hid (HSd.out.call hP hT)
 clear hP hT HW5 HSd
 go_wp2_with fail
 refine (HJ.out _ HSe.out.P).mono ?_
 rintro e w6 hnr
 rcases hnr with ⟨tw6,htw6,hiw6,aw6,nw6,Sw6,rfl,hk,hS,hP,hT⟩ | ⟨hc,rfl,hT⟩
 rotate_left
 ·go_wp2_with fail
  exact ⟨rfl,.thr hc ⟨rfl,hT⟩ (HSe.out).T (stk_must E [59] s4)⟩
 have HS6:=Lib.hid (HSe.out.callT hk hS hP hT)
 have HAw6:=Lib.hid (And.intro htw6 hiw6)
 clear hk hS hP hT htw6 hiw6
 have HMS:=Lib.hid (fun W hW=>must_any p v E tw6 [59] W hW)
 rw [← Al.must HAw6.out.1] at HMS
 clear HJ HSe
 obtain ⟨x0,x1,x2,x3,x4,xf0,xf1,xf2,xf3,xf4,xl⟩:=HS6.out.c5 0 rfl
 go_upto_region 21 with fail
 have HSd:=Lib.hid (SW.buildAt [_] ((HS6.out.setL 0 rfl 0 (.int .i64 13)).setL 0 rfl 3 (.slice (some ⟨w6.heap.size,0,none⟩) 1 1)) [y] rfl (by simp) w6.heap.size (by simp) #[.int .i64 y.kind,.string ⟨y.text.toArray⟩,.float .f64 y.num,.slice aw6 y.kids.length nw6,.int .i64 y.at'] rfl 1 rfl)
 generalize (World.alloc ((w6.setCell _ _).setCell _ _) _) = w7 at HSd ⊢
 clear HS6
 clear x0 x1 x2 x3 x4 xf0 xf1 xf2 xf3 xf4 xl
 go_wp2_with fail
 refine (HMS.out _ HSd.out.P).mono ?_
 rintro e w8 ⟨hok,hbad⟩
 rcases Classical.em ((must E [59] s4).code = 0) with hc | hc
 rotate_left
 ·obtain ⟨rfl,hT⟩:=hbad hc
  go_wp2_with fail
  exact ⟨rfl,.thr hc ⟨rfl,hT⟩ (HSd.out).T (Stk.refl _)⟩
 obtain ⟨rfl,hP,hT⟩:=hok hc
 have HS8:=Lib.hid (HSd.out.call hP hT)
 clear hP hT hok hbad hc
 clear HMS HSd
 obtain ⟨y0,y1,y2,y3,y4,yf0,yf1,yf2,yf3,yf4,yl⟩:=HS8.out.c5 0 rfl
 obtain ⟨r0,r1,r2,r3,r4,rf0,rf1,rf2,rf3,rf4,rl⟩:=HS8.out.c5 1 rfl
 go_wp2_with fail
 have HSH:=Lib.hid (HS8.out.set5 1 rfl (.int .i64 13) (.string ⟨#[]⟩) (.float .f64 0) (.slice (some ⟨w6.heap.size,0,none⟩) 1 1) (.int .i64 a))
 clear HS8
 generalize (((((w8.setCell _ _).setCell _ _).setCell _ _).setCell _ _).setCell _ _) = wf at HSH ⊢
 obtain ⟨z0,z1,z2,z3,z4,zf0,zf1,zf2,zf3,zf4,zl⟩:=HSH.out.c5 1 rfl
 refine bodyPost_ret (v:=.agg #[.int .i64 13,.string ⟨#[]⟩,.float .f64 0,.slice (some ⟨w6.heap.size,0,none⟩) 1 1,.int .i64 a]) (by simp [results,Tryz.results80,go_sem,z0,z1,z2,z3,z4]) rfl ?_
 exact .ok (.inl rfl) (by have h1:s.i + 1 < tw6.i:=HAw6.out.2;have:=must_al_i (g := [59]) HAw6.out.1;omega) (HSH.out.node (List.mem_cons_self ..) (.mk 13 [] 0 [y] a) rfl)
end Go.Proofs.YtmfpmandkhiknaaGreatDoor.qar
