/-
  Proved: what script of the program's parser leaves. Conditions: as each theorem says.
  Proved: what named of the program's parser leaves. Conditions: as each theorem says.
  Proved: what step of the program's parser leaves, but for copy. Conditions: as each theorem says.
  Proved: what step of the program's parser leaves at run. Conditions: as each theorem says.
-/
import Derived.Test.YtmfpmandkhiknaaGreatDoorPu17
set_option linter.unusedVariables false
set_option linter.unusedSimpArgs false
namespace Go.Proofs.YtmfpmandkhiknaaGreatDoor.qar
open par
open Go.RowKit
open heap
open lex (Tk TRow TkAt run_store_float add0)
set_option maxRecDepth 100000
attribute [local go_sem] run_store_float field_tok0 field_tok1 field_tok3
theorem stmtsR_sT {E:PE} (f m:Nat) (ks:List Nd) (t:PS):stmtsR E f m ks (sT E t) = stmtsR E f m ks t:=by
 cases m with
 | zero=>rw [stmtsR,stmtsR]
 | succ m =>
  by_cases hc:t.code = 0
  ·by_cases h0:(sT E t).code = 0
   ·rw [stmtsR,stmtsR,sT_sT,tk_sT,if_neg (show ¬ (sT E t).code ≠ 0 from fun h=>h h0),if_neg (show ¬ t.code ≠ 0 from fun h=>h hc)]
   ·have hk:(tk E t).kind = 0:=Classical.byContradiction fun hk=>by
     have:=(tk_kind hk).2.2
     rw [this] at h0
     exact h0 hc
    rw [stmtsR,stmtsR,if_pos h0,if_neg (show ¬ t.code ≠ 0 from fun h=>h hc),if_pos hk]
  ·rw [sT_bad hc]
theorem stmtsR_al {E:PE} {t s:PS} (h:Al E t s) (f m:Nat) (ks:List Nd):stmtsR E f m ks s = stmtsR E f m ks t:=by
 rcases h with rfl | rfl
 ·rfl
 ·exact stmtsR_sT f m ks t
theorem stmtsR_stk {E:PE} (f:Nat):∀ (m:Nat) (ks:List Nd) (t:PS) (kf:List Nd) (s9:PS),stmtsR E f m ks t = some (kf,s9) → Stk t s9:=by
 intro m
 induction m with
 | zero=>intro ks t kf s9 h;rw [stmtsR] at h;cases h
 | succ m ih =>
  intro ks t kf s9 h
  rw [stmtsR] at h
  split at h
  ·cases h;exact Stk.refl _
  ·split at h
   ·cases h;exact stk_sT E t
   ·cases hr:run E f .stmt (sT E t) with
    | none=>rw [hr] at h;cases h
    | some r =>
     obtain ⟨xs,s2⟩:=r
     rw [hr] at h
     match xs,h with
     | [],h=>cases h
     | _ :: _ :: _,h=>cases h
     | [x],h=>exact ((stk_sT E t).trans (run_stk E _ _ _ _ _ hr)).trans (ih _ _ _ _ h)
theorem PAt.atEnd {w:World} {p:Nat} {v:Value} {E:PE} {s:PS} (h:PAt w p v E s) (hk:(pn E s).kind = 0):(E.lex = 0 → (sT E s).code = 0) ∧ (E.lex ≠ 0 → (sT E s).code ≠ 0):=by
 have hc:=h.c0
 cases ht:E.ts[s.i]? with
 | some t =>
  have e1:sT E s = s:=by unfold sT;rw [pT_ok hc ht]
  rw [e1]
  refine ⟨fun _=>hc,fun hl => ?_⟩
  exfalso
  have hb:=h.ok.bad hl t (List.mem_of_getElem? ht)
  apply hb
  unfold pn at hk
  rw [ht] at hk
  exact hk
 | none =>
  have e1:(sT E s).code = E.lex:=by unfold sT;rw [pT_no hc ht]
  rw [e1]
  exact ⟨fun h=>h,fun h=>h⟩
def ScrJ (W:World) (p:Nat) (v:Value) (E:PE) (bx br:Nat) (f:Nat) (kf:List Nd) (s9:PS) (k:Nat) (wr:World):Prop:=
 ∃ (ks:List Nd) (t:PS) (a:Option Addr) (n:Nat) (S:List Nat),SW W wr p v E t [(bx,ksO 8 [] a ks.length n 0),(br,ndO zero (.slice none 0 0))] [⟨ks,.slice a ks.length n,S⟩] ∧
  stmtsR E f k ks t = some (kf,s9) ∧ 16 * par.ms E t + 2 ≤ f ∧ par.ms E t + 1 ≤ k ∧ ks.length + par.ms E t ≤ 200002
def ScrR (p:Nat) (v:Value) (E:PE) (s9:PS) (x:Nd) (w:World) (e:Ending) (w':World):Prop:=(s9.code = 0 ∧ ∃ t,NodeO p v E t x w e w') ∨ (s9.code ≠ 0 ∧ Thr p s9 w e w')
theorem ScrR.thr {p:Nat} {v:Value} {E:PE} {s s9:PS} {x:Nd} {w W w':World} {e:Ending} (hc:s.code ≠ 0) (h:Thr p s W e w') (ht:Turned [p] w W) (hs:Stk s s9):ScrR p v E s9 x w e w':=.inr ((h.from ht).stk hc hs)
set_option maxHeartbeats 4000000 in
theorem script_any {p:Nat} {v:Value} {E:PE} (f m:Nat) (s:PS) (kf:List Nd) (s9:PS) (W:World) (hf:16 * ms E s + 2 ≤ f) (hm:ms E s + 1 ≤ m)
  (hr:stmtsR E f m [] s = some (kf,s9)) (hl:E.ts.length ≤ 100000) (h:PAt W p v E s) :
  Calls Tryz.prog 54 #[PP p] W (ScrR p v E s9 (.mk 8 [] 0 kf 0) W):=by
 have HS:=Lib.hid ((SW.start h).alloc (ndO zero (.slice none 0 0)))
 have hle:=ms_le (s:=s) hl
 have HR:Hid (stmtsR E f m [] s = some (kf,s9) ∧ 16 * ms E s + 2 ≤ f ∧ ms E s + 1 ≤ m ∧ ms E s ≤ 100001):=⟨hr,hf,hm,hle⟩
 clear h hl hr hf hm hle
 go_enter Tryz.func54,Tryz.ntmps54
 go_upto_region 1 with fail
 change Code.wp _ _ _ _ (W.alloc (ndO zero (.slice none 0 0)))
 generalize W.alloc (ndO zero (.slice none 0 0)) = w0 at *
 generalize hbr:W.heap.size = br at *
 have HS1:=Lib.hid ((HS.out.alloc (ksO 8 [] none 0 0 0)).addNil)
 clear HS
 have HI0:Hid (ScrJ W p v E w0.heap.size br f kf s9 m (w0.alloc (ksO 8 [] none 0 0 0))):=⟨[],s,none,0,[],HS1.out,HR.out.1,HR.out.2.1,HR.out.2.2.1,by have:=HR.out.2.2.2;simp;omega⟩
 clear HS1 HR
 go_upto_region 2 with fail
 change Code.wp _ _ _ _ (w0.alloc (ksO 8 [] none 0 0 0))
 generalize w0.alloc (ksO 8 [] none 0 0 0) = wi at *
 generalize w0.heap.size = bx at *
 go_loopg [] m (fun k wr=>ScrJ W p v E bx br f kf s9 k wr)
 case atStart=>exact HI0.out
 case round =>
  obtain ⟨ks,t,a4,n4,S4,hsw,hr,hm,hkf,hlen⟩:=hrel
  have HS6:=Lib.hid hsw
  have hc:=hsw.P.c0
  obtain ⟨k',rfl⟩:∃ k',gk = k' + 1:=⟨gk - 1,by omega⟩
  have HN:=Lib.hid (fun W h=>now_any p v E t W h)
  rw [stmtsR,if_neg (show ¬ t.code ≠ 0 from fun h=>h hc),run_sT2 E f .stmt t (fun _ h=>by cases h)] at hr
  have hkk:=(pn_kt (E:=E) hc).1
  rw [← hkk] at hr
  have hEnd:=hsw.P.atEnd
  clear HI0
  by_cases hA:(pn E t).kind = 0 ∧ E.lex = 0
  ·obtain ⟨hk0,hl0⟩:=hA
   rw [if_pos hk0] at hr
   cases hr
   have HC:Hid ((sT E t).code = 0):=(hEnd hk0).1 hl0
   have hkb:((pn E t).kind != 0) = false:=by rw [hk0];rfl
   have hlb:(E.lex != 0) = false:=by rw [hl0];rfl
   clear hEnd hkk hsw hm hkf hlen hc hk0 hl0
   generalize pn E t = tk0 at *
   obtain ⟨kd,u,nm,a⟩:=tk0
   simp only at hkb
   go_wp2_with fail
   refine (HN.out _ HS6.out.P).mono ?_;rintro e w7 ⟨rfl,hb7⟩
   have HS7:=Lib.hid (HS6.out.call (HS6.out.P.below hb7) (Turned.of_below hb7))
   clear hb7 HN HS6
   have hcs:=HS7.out.P.cells
   have q2:=hcs.c2
   have hpl:=HS7.out.P.lt
   clear hcs
   obtain ⟨y0,y1,y2,y3,y4,yf0,yf1,yf2,yf3,yf4,yl⟩:=HS7.out.c5 0 rfl
   obtain ⟨r0,r1,r2,r3,r4,rf0,rf1,rf2,rf3,rf4,rl⟩:=HS7.out.c5 1 rfl
   go_wp2_with fail
   have HSH:=Lib.hid (HS7.out.set5 1 rfl (.int .i64 8) (.string ⟨#[]⟩) (.float .f64 0) (.slice a4 kf.length n4) (.int .i64 0))
   clear HS7
   generalize (((((w7.setCell _ _).setCell _ _).setCell _ _).setCell _ _).setCell _ _) = wf at HSH ⊢
   obtain ⟨z0,z1,z2,z3,z4,zf0,zf1,zf2,zf3,zf4,zl⟩:=HSH.out.c5 1 rfl
   refine bodyPost_ret (v:=.agg #[.int .i64 8,.string ⟨#[]⟩,.float .f64 0,.slice a4 kf.length n4,.int .i64 0]) (by simp [results,Tryz.results54,go_sem,z0,z1,z2,z3,z4]) rfl ?_
   exact .inl ⟨HC.out,_,HSH.out.node (List.mem_cons_self ..) (.mk 8 [] 0 kf 0) rfl⟩
  ·obtain ⟨y,s5,h1,-,-⟩:=(run_ends E f .stmt t trivial (by simp only [rank];omega)).one rfl
   have h1':=h1
   rw [← run_sT2 E f .stmt t (fun _ h=>by cases h)] at h1'
   have hstk:=run_stk E _ _ _ _ _ h1'
   have h0:(pn E t).kind = 0 → (sT E t).code ≠ 0:=fun hk=>(hEnd hk).2 (fun hl=>hA ⟨hk,hl⟩)
   have HZ:Hid (Stk s5 s9):=by
    unfold Hid
    split at hr
    ·rename_i hk
     cases hr
     obtain ⟨e1,e2⟩:=hstk (h0 hk)
     exact fun _=>⟨e1.symm,e2.symm⟩
    ·rw [h1] at hr
     exact stmtsR_stk _ _ _ _ _ _ hr
   have HR:Hid ((pn E t).kind ≠ 0 → stmtsR E f k' (ks ++ [y]) s5 = some (kf,s9)):=fun hk=>by
    rw [if_neg hk,h1] at hr
    exact hr
   have HJ2:=Lib.hid (fun W h=>(qjobs_all p v E f).stmt t y s5 W (by simp only [rank];omega) h1 h)
   have HK:Hid (16 * ms E t + 2 ≤ f ∧ ms E t + 1 ≤ k' + 1 ∧ ks.length + ms E t ≤ 200002 ∧ t.code = 0 ∧ ((pn E t).kind = 0 → (sT E t).code ≠ 0)):=⟨hm,hkf,hlen,hc,h0⟩
   have hgo:((pn E t).kind != 0) = true ∨ (((pn E t).kind != 0) = false ∧ (E.lex != 0) = true):=by
    by_cases hk:(pn E t).kind = 0
    ·right
     refine ⟨by rw [hk];rfl,?_⟩
     have:E.lex ≠ 0:=fun hl=>hA ⟨hk,hl⟩
     simpa using this
    ·left;simpa using hk
   have HGO:=Lib.hid hgo
   clear hsw hr hm hkf hlen hc h1 h1' hstk h0 hA hgo hEnd hkk
   generalize pn E t = tk0 at *
   obtain ⟨kd,u,nm,a⟩:=tk0
   simp only at HGO HK HR
   go_upto_region 2 with fail
   go_cut [15] from 5 to 16 (fun s15 wx=>s15 = .bool true ∧ Hid (SW W wx p v E t [(bx,ksO 8 [] a4 ks.length n4 0),(br,ndO zero (.slice none 0 0))] [⟨ks,.slice a4 ks.length n4,S4⟩]))
   case first =>
    rcases HGO.out with hkb | ⟨hkb,hlb⟩
    ·go_wp2_with fail
     refine (HN.out _ HS6.out.P).mono ?_;rintro e w7 ⟨rfl,hb7⟩
     have HS7:=Lib.hid (HS6.out.call (HS6.out.P.below hb7) (Turned.of_below hb7))
     clear hb7 HN HS6
     go_wp2_with fail
     go_meet
     exact ⟨rfl,HS7⟩
    ·go_wp2_with fail
     refine (HN.out _ HS6.out.P).mono ?_;rintro e w7 ⟨rfl,hb7⟩
     have HS7:=Lib.hid (HS6.out.call (HS6.out.P.below hb7) (Turned.of_below hb7))
     clear hb7 HN HS6
     have hcs:=HS7.out.P.cells
     have q2:=hcs.c2
     have hpl:=HS7.out.P.lt
     clear hcs
     go_wp2_with fail
     go_meet
     exact ⟨rfl,HS7⟩
   case rest =>
    obtain ⟨rfl,HS7⟩:=hcut
    clear HS6 HN HGO
    rename_i wx
    obtain ⟨y0,y1,y2,y3,y4,yf0,yf1,yf2,yf3,yf4,yl⟩:=HS7.out.c5 0 rfl
    go_wp2_with fail
    go_region_law
     (first
      | (obtain ⟨a2,n2,w11,S2,hrun,hsw⟩:=((HS10.out.alloc (ndO y (.slice a10 y.kids.length n10))).drop _ ((List.Sublist.refl _).cons _)).appendS y rfl w10.heap.size (blk_new _ _) (by have:=HK.out.2.2.1;simp only;omega)
         have HRUN:=Lib.hid hrun
         have HS11:=Lib.hid hsw
         clear hrun hsw
         obtain ⟨r0,r1,r2,r3,r4,rf0,rf1,rf2,rf3,rf4,rl⟩:=HS11.out.c5 0 rfl
         refine step_append_run (by rfl) (by rfl) (by rfl) (by rfl) (by rfl) HRUN.out ?_)
      | (go_simp
         go_at_call 80
         refine (HJ2.out _ (by first | exact HS7.out.P | exact HS7.out.drew.P)).mono ?_
         rintro e w10 hnr
         rcases hnr with ⟨t10,ht,hi,a10,n10,S10,rfl,hk,hS,hP,hT⟩ | ⟨hc,rfl,hT⟩
         rotate_left
         · go_wp2_with fail
           exact ⟨rfl,.thr hc ⟨rfl,hT⟩ HS7.out.drew.T HZ.out⟩
         have HS10:=Lib.hid (HS7.out.drew.callT hk hS hP hT)
         have HA10:=Lib.hid (And.intro ht hi)
         clear hk hS hP hT ht hi
         obtain ⟨r0,r1,r2,r3,r4,rf0,rf1,rf2,rf3,rf4,rl⟩:=HS10.out.c5 0 rfl))
    all_goals
     have hk0:kd ≠ 0:=fun hk=>by
      have h1:=no_token HK.out.2.2.2.1 (HK.out.2.2.2.2 hk)
      have h2:=HS10.out.P.le
      have h3:=HA10.out.2
      have h4:=pts_len E
      split at h4 <;> omega
     have HB:Hid (ScrJ W p v E bx br f kf s9 k' (w11.setCell ⟨bx,3,none⟩ (.slice a2 (ks.length + 1) n2))):=⟨ks ++ [y],t10,a2,n2,S2,by
      have:=HS11.out.setL 0 rfl 3 (.slice a2 (ks ++ [y]).length n2)
      rw [List.length_append] at this ⊢
      exact this,by
      have:=HR.out hk0
      rw [stmtsR_al HA10.out.1] at this
      exact this,by
      have:=HS11.out.P.ms HK.out.2.2.2.1 HA10.out.2
      have:=HK.out.1
      omega,by
      have:=HS11.out.P.ms HK.out.2.2.2.1 HA10.out.2
      have:=HK.out.2.1
      omega,by
      have:=HS11.out.P.ms HK.out.2.2.2.1 HA10.out.2
      have:=HK.out.2.2.1
      rw [List.length_append]
      simp only [List.length_cons,List.length_nil]
      omega⟩
     clear HS11 HRUN HK HS7 HJ2 HS10 HR HZ HA10 hk0
     go_wp2_with fail
     go_roundg k'
     case rel=>exact HB.out
     case measure=>omega
theorem pName_pn {E:PE} {s:PS} (hc:s.code = 0) {b:Bool} (hb:((pn E s).kind == 1 && !kept (pn E s).text) = b) :
  if b = true then pName E s = (((pn E s).text,(pn E s).at'),inc s) else (pName E s).2 = wrong E s:=by
 have hkk:=(pn_kt (E:=E) hc).1
 cases b with
 | true =>
  rw [if_pos rfl]
  rw [Bool.and_eq_true,Bool.not_eq_true',beq_iff_eq] at hb
  obtain ⟨e1,e2⟩:=more_at hc hb.1 (by decide)
  unfold pName
  rw [e1,e2,if_neg (by rintro (h | h);exact h hb.1;rw [hb.2] at h;cases h)]
 | false =>
  rw [if_neg (by decide)]
  unfold pName
  rw [if_pos,wrong_sT2]
  by_cases h1:(pn E s).kind = 1
  ·right
   rw [h1] at hb
   have:kept (pn E s).text = true:=by simpa using hb
   obtain ⟨e1,e2⟩:=more_at hc h1 (by decide)
   rw [e1];exact this
  ·left
   rw [← hkk];exact h1
theorem pText_pn {E:PE} {s:PS} (hc:s.code = 0) {b:Bool} (hb:((pn E s).kind == 3) = b) :
  if b = true then pText E s = (((pn E s).text,(pn E s).at'),inc s) else (pText E s).2 = wrong E s:=by
 have hkk:=(pn_kt (E:=E) hc).1
 cases b with
 | true =>
  rw [if_pos rfl]
  have hk:(pn E s).kind = 3:=by simpa using hb
  obtain ⟨e1,e2⟩:=more_at hc hk (by decide)
  unfold pText
  rw [e1,e2,if_neg (fun h=>h hk)]
 | false =>
  rw [if_neg (by decide)]
  have hk:(pn E s).kind ≠ 3:=by simpa using hb
  unfold pText
  rw [if_pos (by rw [← hkk];exact hk),wrong_sT2]
def NodeM (p:Nat) (v:Value) (E:PE) (i:Nat) (s2:PS) (x:Nd) (w:World) (e:Ending) (w':World):Prop:=(∃ t,(t = s2 ∨ sT E t = s2) ∧ i ≤ t.i ∧ NodeO p v E t x w e w') ∨ (s2.code ≠ 0 ∧ Thr p s2 w e w')
set_option maxHeartbeats 4000000 in
theorem named_any {p:Nat} {v:Value} {E:PE} (g:List UInt8) (a:Int) (s:PS) (W:World) (h:PAt W p v E s) :
  Calls Tryz.prog 100 #[PP p,.string ⟨g.toArray⟩,.int .i64 a] W (NodeM p v E s.i (named E g a s).2 (named E g a s).1 W):=by
 have HS:=Lib.hid ((SW.start h).alloc (ndO zero (.slice none 0 0)))
 have hc:=h.c0
 obtain ⟨b,hb⟩:∃ b,isW E g s = b:=⟨_,rfl⟩
 have HW:=Lib.hid (fun W hW=>word_any p v E s g b W hW hb)
 cases b with
 | false =>
  have e:named E g a s = (.mk 14 [] 0 [] a,sT E s):=by unfold named;rw [hb];rfl
  rw [e]
  clear e hb h hc
  go_enter Tryz.func100,Tryz.ntmps100
  go_upto_region 1 with fail
  change Code.wp _ _ _ _ (W.alloc (ndO zero (.slice none 0 0)))
  generalize W.alloc (ndO zero (.slice none 0 0)) = w0 at *
  generalize hbr:W.heap.size = br at *
  have HS1:=Lib.hid (HS.out.alloc (ksO 14 [] none 0 0 a))
  clear HS
  go_upto_region 2 with fail
  change Code.wp _ _ _ _ (w0.alloc (ksO 14 [] none 0 0 a))
  generalize w0.alloc (ksO 14 [] none 0 0 a) = w1 at *
  generalize w0.heap.size = bx at *
  go_wp2_with fail
  refine (HW.out _ HS1.out.P).mono ?_;rintro e w2 ⟨rfl,hP,hT⟩
  have HS2:=Lib.hid (HS1.out.call hP hT)
  clear hP hT HW HS1
  obtain ⟨y0,y1,y2,y3,y4,yf0,yf1,yf2,yf3,yf4,yl⟩:=HS2.out.c5 0 rfl
  obtain ⟨r0,r1,r2,r3,r4,rf0,rf1,rf2,rf3,rf4,rl⟩:=HS2.out.c5 1 rfl
  go_wp2_with fail
  have HSH:=Lib.hid (HS2.out.set5 1 rfl (.int .i64 14) (.string ⟨#[]⟩) (.float .f64 0) (.slice none 0 0) (.int .i64 a))
  clear HS2
  generalize (((((w2.setCell _ _).setCell _ _).setCell _ _).setCell _ _).setCell _ _) = wf at HSH ⊢
  obtain ⟨z0,z1,z2,z3,z4,zf0,zf1,zf2,zf3,zf4,zl⟩:=HSH.out.c5 1 rfl
  refine bodyPost_ret (v:=.agg #[.int .i64 14,.string ⟨#[]⟩,.float .f64 0,.slice none 0 0,.int .i64 a]) (by simp [results,Tryz.results100,go_sem,z0,z1,z2,z3,z4]) rfl ?_
  exact .inl ⟨s,.inr rfl,Nat.le_refl _,HSH.out.leaf (.mk 14 [] 0 [] a) rfl⟩
 | true =>
  have hsT:=(h.moreW hb).2.1
  have e:named E g a s = (.mk 14 (pName E (inc s)).1.1 0 [] (pName E (inc s)).1.2,(pName E (inc s)).2):=by unfold named;rw [hb,if_pos rfl,hsT]
  rw [e]
  have HWT:Hid (∀ W,PAt W p v E s → Calls Tryz.prog 97 #[PP p,.string ⟨g.toArray⟩] W (StpR p v E (inc s) (.bool true) W)):=HW.out
  obtain ⟨b2,hb2⟩:∃ b2,((pn E (inc s)).kind == 1 && !kept (pn E (inc s)).text) = b2:=⟨_,rfl⟩
  have hpN:=pName_pn (E:=E) (s:=inc s) hc hb2
  have HKN:=Lib.hid (fun s2 (h2:if b2 = true then s2 = inc (inc s) else s2 = wrong E (inc s)) W (hW:PAt W p v E (inc s))=>kindN_any p v E (inc s) W hW s2 b2 hb2 h2)
  have HP:=Lib.hid hpN
  have HC:=Lib.hid hc
  clear e hb h hc hsT hb2 hpN HW
  go_enter Tryz.func100,Tryz.ntmps100
  go_upto_region 1 with fail
  change Code.wp _ _ _ _ (W.alloc (ndO zero (.slice none 0 0)))
  generalize W.alloc (ndO zero (.slice none 0 0)) = w0 at *
  generalize hbr:W.heap.size = br at *
  have HS1:=Lib.hid (HS.out.alloc (ksO 14 [] none 0 0 a))
  clear HS
  go_upto_region 2 with fail
  change Code.wp _ _ _ _ (w0.alloc (ksO 14 [] none 0 0 a))
  generalize w0.alloc (ksO 14 [] none 0 0 a) = w1 at *
  generalize w0.heap.size = bx at *
  go_wp2_with fail
  refine (HWT.out _ HS1.out.P).mono ?_;rintro e w2 ⟨rfl,hP,hT⟩
  have HS2:=Lib.hid (HS1.out.call hP hT)
  clear hP hT HWT HS1
  go_wp2_with fail
  cases b2 with
  | false =>
   have hp:=HP.out
   rw [if_neg (by decide)] at hp
   refine (HKN.out _ rfl _ HS2.out.P).mono ?_
   rintro e w5 ⟨-,hbad⟩
   obtain ⟨rfl,hT⟩:=hbad (wrong_code E _)
   go_wp2_with fail
   exact ⟨rfl,.inr ⟨wrong_code E _,Thr.from ⟨rfl,hT⟩ HS2.out.T⟩⟩
  | true =>
   have hp:=HP.out
   rw [if_pos rfl] at hp
   have HP2:Hid (pName E (inc s) = (((pn E (inc s)).text,(pn E (inc s)).at'),inc (inc s))):=hp
   refine (HKN.out _ rfl _ HS2.out.P).mono ?_
   rintro e w5 ⟨hok,-⟩
   obtain ⟨rfl,hP,hT⟩:=hok HC.out
   have HS5:=Lib.hid ((HS2.out.call hP hT).alloc (tnO (pn E (inc s))))
   clear hP hT hok HKN HS2 HP hp
   generalize pn E (inc s) = t1 at *
   go_upto_region 4 with fail
   change Code.wp _ _ _ _ (w5.alloc (tnO t1))
   generalize w5.alloc (tnO t1) = w6 at *
   generalize w5.heap.size = bt at *
   obtain ⟨o0,o1,o2,o3,of0,of1,of2,of3,ol⟩:=HS5.out.c4 0 rfl
   obtain ⟨y0,y1,y2,y3,y4,yf0,yf1,yf2,yf3,yf4,yl⟩:=HS5.out.c5 1 rfl
   go_region
   all_goals
    have HS6:=Lib.hid (((HS5.out.setL 1 rfl 1 (.string ⟨t1.text.toArray⟩)).setL 1 rfl 4 (.int .i64 t1.at')).drew)
    generalize ((w6.setCell _ _).setCell _ _).drew = w7 at HS6 ⊢
    clear HS5
    clear o0 o1 o2 o3 of0 of1 of2 of3 ol
    clear y0 y1 y2 y3 y4 yf0 yf1 yf2 yf3 yf4 yl
    obtain ⟨y0,y1,y2,y3,y4,yf0,yf1,yf2,yf3,yf4,yl⟩:=HS6.out.c5 1 rfl
    obtain ⟨r0,r1,r2,r3,r4,rf0,rf1,rf2,rf3,rf4,rl⟩:=HS6.out.c5 2 rfl
    go_wp2_with fail
    have HSH:=Lib.hid (HS6.out.set5 2 rfl (.int .i64 14) (.string ⟨t1.text.toArray⟩) (.float .f64 0) (.slice none 0 0) (.int .i64 t1.at'))
    clear HS6
    generalize (((((w7.setCell _ _).setCell _ _).setCell _ _).setCell _ _).setCell _ _) = wf at HSH ⊢
    obtain ⟨z0,z1,z2,z3,z4,zf0,zf1,zf2,zf3,zf4,zl⟩:=HSH.out.c5 2 rfl
    refine bodyPost_ret (v:=.agg #[.int .i64 14,.string ⟨t1.text.toArray⟩,.float .f64 0,.slice none 0 0,.int .i64 t1.at']) (by simp [results,Tryz.results100,go_sem,z0,z1,z2,z3,z4]) rfl ?_
    have hp2:pName E (inc s) = ((t1.text,t1.at'),inc (inc s)):=HP2.out
    rw [hp2]
    exact .inl ⟨inc (inc s),.inl rfl,Nat.le_trans (Nat.le_succ _) (Nat.le_succ _),HSH.out.leaf (.mk 14 t1.text 0 [] t1.at') rfl⟩
set_option maxHeartbeats 4000000 in
theorem step_bad {p:Nat} {v:Value} {E:PE} {f:Nat} (s:PS) (x:Nd) (s2:PS) (W:World) (hr:stepR E f s = some (x,s2)) (h:PAt W p v E s) (h1:isW E wCopy s = false) (h2:isW E wRun s = false) (h3:isW E wWork s = false) (h4:isW E wMk s = false) (h5:isW E wRem s = false):Calls Tryz.prog 103 #[PP p] W (NodeR p v E s.i s2 x W):=by
 have HS:=Lib.hid (SW.start h)
 have HN:=Lib.hid (fun W h=>now_any p v E s W h)
 have HW1:=Lib.hid (fun W hW=>word_any p v E s wCopy false W hW h1)
 have HW2:=Lib.hid (fun W hW=>word_any p v E s wRun false W hW h2)
 have HW3:=Lib.hid (fun W hW=>word_any p v E s wWork false W hW h3)
 have HW4:=Lib.hid (fun W hW=>word_any p v E s wMk false W hW h4)
 have HW5:=Lib.hid (fun W hW=>word_any p v E s wRem false W hW h5)
 have HBD:=Lib.hid (fun W hW=>bad_any p v E s W hW)
 rw [stepR,if_neg (by rw [h1];decide),if_neg (by rw [h2];decide),if_neg (by rw [h3,h4,h5];decide)] at hr
 cases hr
 rw [wrong_sT2]
 have HW:=Lib.hid (wrong_code E s)
 clear h h1 h2 h3 h4 h5
 generalize tk E s = t' at *
 generalize pn E s = t at *
 obtain ⟨kd,u,nm,a⟩:=t
 go_enter Tryz.func103,Tryz.ntmps103
 go_upto_region 1 with fail
 have HS0:=Lib.hid (HS.out.alloc (ndO zero (.slice none 0 0)))
 clear HS
 change Code.wp _ _ _ _ (W.alloc (ndO zero (.slice none 0 0)))
 generalize W.alloc (ndO zero (.slice none 0 0)) = w0 at *
 generalize W.heap.size = br at *
 go_wp2_with fail
 refine (HN.out _ HS0.out.P).mono ?_;rintro e w1 ⟨rfl,hb1⟩
 have HS3:=Lib.hid ((HS0.out.call (HS0.out.P.below hb1) (Turned.of_below hb1)).alloc (ksO 0 [] none 0 0 a))
 clear hb1 HN HS0
 go_upto_region 3 with fail
 change Code.wp _ _ _ _ (w1.alloc (ksO 0 [] none 0 0 a))
 generalize w1.alloc (ksO 0 [] none 0 0 a) = w3 at *
 generalize w1.heap.size = bx at *
 go_wp2_with fail
 refine (HW1.out _ HS3.out.P).mono ?_;rintro e wa ⟨rfl,hP,hT⟩
 have HSa:=Lib.hid (HS3.out.call hP hT)
 clear hP hT HW1 HS3
 go_wp2_with fail
 refine (HW2.out _ HSa.out.P).mono ?_;rintro e wb ⟨rfl,hP,hT⟩
 have HSb:=Lib.hid (HSa.out.call hP hT)
 clear hP hT HW2 HSa
 go_wp2_with fail
 refine (HW3.out _ HSb.out.P).mono ?_;rintro e wc ⟨rfl,hP,hT⟩
 have HSc:=Lib.hid (HSb.out.call hP hT)
 clear hP hT HW3 HSb
 go_wp2_with fail
 refine (HW4.out _ HSc.out.P).mono ?_;rintro e wd ⟨rfl,hP,hT⟩
 have HSd:=Lib.hid (HSc.out.call hP hT)
 clear hP hT HW4 HSc
 go_wp2_with fail
 refine (HW5.out _ HSd.out.P).mono ?_;rintro e we ⟨rfl,hP,hT⟩
 have HSe:=Lib.hid (HSd.out.call hP hT)
 clear hP hT HW5 HSd
 go_wp2_with fail
 refine (HBD.out _ HSe.out.P).mono ?_;rintro e w8 ⟨rfl,hT⟩
 exact ⟨rfl,.thr HW.out ⟨rfl,hT⟩ HSe.out.T (Stk.refl _)⟩
set_option maxHeartbeats 4000000 in
theorem step_work {p:Nat} {v:Value} {E:PE} {f:Nat} (s:PS) (x:Nd) (s2:PS) (W:World) (hr:stepR E f s = some (x,s2)) (h:PAt W p v E s) (h1:isW E wCopy s = false) (h2:isW E wRun s = false) (h3:isW E wWork s = true):Calls Tryz.prog 103 #[PP p] W (NodeR p v E s.i s2 x W):=by
 have HS:=Lib.hid (SW.start h)
 have HN:=Lib.hid (fun W h=>now_any p v E s W h)
 have HW1:=Lib.hid (fun W hW=>word_any p v E s wCopy false W hW h1)
 have HW2:=Lib.hid (fun W hW=>word_any p v E s wRun false W hW h2)
 have HW3:=Lib.hid (fun W hW=>(word_any p v E s wWork true W hW h3:Calls Tryz.prog _ _ W (StpR p v E (inc s) (.bool true) W)))
 obtain ⟨hi,hsT,htk⟩:=h.moreW h3
 have hk:=isW_kind h3
 rw [htk] at hk
 have hc:(inc s).code = 0:=h.c0
 rw [stepR,if_neg (by rw [h1];decide),if_neg (by rw [h2];decide),if_pos (by simp [h3]),hsT,htk,hk.2] at hr
 rw [if_neg (by decide),if_neg (by decide)] at hr
 cases hr
 obtain ⟨b,hb⟩:∃ b,((pn E (inc s)).kind == 3) = b:=⟨_,rfl⟩
 have hpN:=pText_pn (E:=E) (s:=inc s) hc hb
 have HKN:=Lib.hid (fun s2 (h2:if b = true then s2 = inc (inc s) else s2 = wrong E (inc s)) W (hW:PAt W p v E (inc s))=>kindT_any p v E (inc s) W hW s2 b hb h2)
 have HSK:=Lib.hid (stk_must E [59] (pText E (inc s)).2)
 have HP:=Lib.hid hpN
 have HC:=Lib.hid hc
 clear h hk hsT htk hc hb hpN h1 h2 h3
 generalize pn E s = t at *
 obtain ⟨kd,u,nm,a⟩:=t
 go_enter Tryz.func103,Tryz.ntmps103
 go_upto_region 1 with fail
 have HS0:=Lib.hid (HS.out.alloc (ndO zero (.slice none 0 0)))
 clear HS
 change Code.wp _ _ _ _ (W.alloc (ndO zero (.slice none 0 0)))
 generalize W.alloc (ndO zero (.slice none 0 0)) = w0 at *
 generalize W.heap.size = br at *
 go_wp2_with fail
 refine (HN.out _ HS0.out.P).mono ?_;rintro e w1 ⟨rfl,hb1⟩
 have HS3:=Lib.hid ((HS0.out.call (HS0.out.P.below hb1) (Turned.of_below hb1)).alloc (ksO 0 [] none 0 0 a))
 clear hb1 HN HS0
 go_upto_region 3 with fail
 change Code.wp _ _ _ _ (w1.alloc (ksO 0 [] none 0 0 a))
 generalize w1.alloc (ksO 0 [] none 0 0 a) = w3 at *
 generalize w1.heap.size = bx at *
 go_wp2_with fail
 refine (HW1.out _ HS3.out.P).mono ?_;rintro e wa ⟨rfl,hP,hT⟩
 have HSa:=Lib.hid (HS3.out.call hP hT)
 clear hP hT HW1 HS3
 go_wp2_with fail
 refine (HW2.out _ HSa.out.P).mono ?_;rintro e wb ⟨rfl,hP,hT⟩
 have HSb:=Lib.hid (HSa.out.call hP hT)
 clear hP hT HW2 HSa
 go_wp2_with fail
 refine (HW3.out _ HSb.out.P).mono ?_;rintro e wc ⟨rfl,hP,hT⟩
 have HSc:=Lib.hid (HSb.out.call hP hT)
 clear hP hT HW3 HSb
 obtain ⟨x0,x1,x2,x3,x4,xf0,xf1,xf2,xf3,xf4,xl⟩:=HSc.out.c5 0 rfl
 go_wp2_with fail
 cases b with
 | false =>
  have hp:=HP.out
  rw [if_neg (by decide)] at hp
  have HSK2:Hid (Stk (wrong E (inc s)) (must E [59] (pText E (inc s)).2)):=by rw [← hp];exact HSK.out
  clear hp HP HSK
  refine (HKN.out _ rfl _ HSc.out.P).mono ?_
  rintro e w5 ⟨-,hbad⟩
  obtain ⟨rfl,hT⟩:=hbad (wrong_code E _)
  go_wp2_with fail
  exact ⟨rfl,.thr (wrong_code E _) ⟨rfl,hT⟩ HSc.out.T HSK2.out⟩
 | true =>
  have hp:=HP.out
  rw [if_pos rfl] at hp
  have HP2:Hid (pText E (inc s) = (((pn E (inc s)).text,(pn E (inc s)).at'),inc (inc s))):=hp
  refine (HKN.out _ rfl _ HSc.out.P).mono ?_
  rintro e w5 ⟨hok,-⟩
  obtain ⟨rfl,hP,hT⟩:=hok HC.out
  have HS5:=Lib.hid (HSc.out.call hP hT)
  have HMS:=Lib.hid (fun W hW=>must_any p v E (inc (inc s)) [59] W hW)
  clear hP hT hok HKN HSc HP hp HSK
  clear x0 x1 x2 x3 x4 xf0 xf1 xf2 xf3 xf4 xl
  obtain ⟨x0,x1,x2,x3,x4,xf0,xf1,xf2,xf3,xf4,xl⟩:=HS5.out.c5 0 rfl
  generalize pn E (inc s) = t1 at *
  obtain ⟨kd1,u1,nm1,a1⟩:=t1
  go_upto_region 18 with fail
  have HS6:=Lib.hid ((HS5.out.setL 0 rfl 0 (.int .i64 5)).setL 0 rfl 1 (.string ⟨u1.toArray⟩))
  generalize ((w5.setCell _ _).setCell _ _) = w6 at HS6 ⊢
  clear HS5
  clear x0 x1 x2 x3 x4 xf0 xf1 xf2 xf3 xf4 xl
  go_wp2_with fail
  have HSK2:Hid (Stk (must E [59] (inc (inc s))) (must E [59] (pText E (inc s)).2)):=by
   have hp2:pText E (inc s) = ((u1,a1),inc (inc s)):=HP2.out
   rw [hp2]
   exact Stk.refl _
  refine (HMS.out _ HS6.out.P).mono ?_
  rintro e w7 ⟨hok,hbad⟩
  rcases Classical.em ((must E [59] (inc (inc s))).code = 0) with hc | hc
  rotate_left
  ·obtain ⟨rfl,hT⟩:=hbad hc
   go_wp2_with fail
   exact ⟨rfl,.thr hc ⟨rfl,hT⟩ (HS6.out).T (HSK2.out)⟩
  obtain ⟨rfl,hP,hT⟩:=hok hc
  have HS7:=Lib.hid (HS6.out.call hP hT)
  clear hP hT hok hbad hc
  clear HMS HS6
  obtain ⟨y0,y1,y2,y3,y4,yf0,yf1,yf2,yf3,yf4,yl⟩:=HS7.out.c5 0 rfl
  obtain ⟨r0,r1,r2,r3,r4,rf0,rf1,rf2,rf3,rf4,rl⟩:=HS7.out.c5 1 rfl
  go_wp2_with fail
  have HSH:=Lib.hid (HS7.out.set5 1 rfl (.int .i64 5) (.string ⟨u1.toArray⟩) (.float .f64 0) (.slice none 0 0) (.int .i64 a))
  clear HS7
  generalize (((((w7.setCell _ _).setCell _ _).setCell _ _).setCell _ _).setCell _ _) = wf at HSH ⊢
  obtain ⟨z0,z1,z2,z3,z4,zf0,zf1,zf2,zf3,zf4,zl⟩:=HSH.out.c5 1 rfl
  refine bodyPost_ret (v:=.agg #[.int .i64 5,.string ⟨u1.toArray⟩,.float .f64 0,.slice none 0 0,.int .i64 a]) (by simp [results,Tryz.results103,go_sem,z0,z1,z2,z3,z4]) rfl ?_
  have hp2:pText E (inc s) = ((u1,a1),inc (inc s)):=HP2.out
  rw [hp2]
  exact .ok (.inl rfl) (by have h2:s.i + 2 ≤ (must E [59] (inc (inc s))).i:=must_i (inc (inc s));show s.i < (must E [59] (inc (inc s))).i;omega) (HSH.out.leaf (.mk 5 u1 0 [] a) rfl)
set_option maxHeartbeats 4000000 in
theorem step_mk {p:Nat} {v:Value} {E:PE} {f:Nat} (s:PS) (x:Nd) (s2:PS) (W:World) (hr:stepR E f s = some (x,s2)) (h:PAt W p v E s) (h1:isW E wCopy s = false) (h2:isW E wRun s = false) (h3:isW E wWork s = false) (h4:isW E wMk s = true):Calls Tryz.prog 103 #[PP p] W (NodeR p v E s.i s2 x W):=by
 have HS:=Lib.hid (SW.start h)
 have HN:=Lib.hid (fun W h=>now_any p v E s W h)
 have HW1:=Lib.hid (fun W hW=>word_any p v E s wCopy false W hW h1)
 have HW2:=Lib.hid (fun W hW=>word_any p v E s wRun false W hW h2)
 have HW3:=Lib.hid (fun W hW=>word_any p v E s wWork false W hW h3)
 have HW4:=Lib.hid (fun W hW=>(word_any p v E s wMk true W hW h4:Calls Tryz.prog _ _ W (StpR p v E (inc s) (.bool true) W)))
 obtain ⟨hi,hsT,htk⟩:=h.moreW h4
 have hk:=isW_kind h4
 rw [htk] at hk
 have hc:(inc s).code = 0:=h.c0
 rw [stepR,if_neg (by rw [h1];decide),if_neg (by rw [h2];decide),if_pos (by simp [h3,h4]),hsT,htk,hk.2] at hr
 rw [if_neg (by decide),if_pos rfl] at hr
 cases hr
 obtain ⟨b,hb⟩:∃ b,((pn E (inc s)).kind == 3) = b:=⟨_,rfl⟩
 have hpN:=pText_pn (E:=E) (s:=inc s) hc hb
 have HKN:=Lib.hid (fun s2 (h2:if b = true then s2 = inc (inc s) else s2 = wrong E (inc s)) W (hW:PAt W p v E (inc s))=>kindT_any p v E (inc s) W hW s2 b hb h2)
 have HSK:=Lib.hid (stk_must E [59] (pText E (inc s)).2)
 have HP:=Lib.hid hpN
 have HC:=Lib.hid hc
 clear h hk hsT htk hc hb hpN h1 h2 h3 h4
 generalize pn E s = t at *
 obtain ⟨kd,u,nm,a⟩:=t
 go_enter Tryz.func103,Tryz.ntmps103
 go_upto_region 1 with fail
 have HS0:=Lib.hid (HS.out.alloc (ndO zero (.slice none 0 0)))
 clear HS
 change Code.wp _ _ _ _ (W.alloc (ndO zero (.slice none 0 0)))
 generalize W.alloc (ndO zero (.slice none 0 0)) = w0 at *
 generalize W.heap.size = br at *
 go_wp2_with fail
 refine (HN.out _ HS0.out.P).mono ?_;rintro e w1 ⟨rfl,hb1⟩
 have HS3:=Lib.hid ((HS0.out.call (HS0.out.P.below hb1) (Turned.of_below hb1)).alloc (ksO 0 [] none 0 0 a))
 clear hb1 HN HS0
 go_upto_region 3 with fail
 change Code.wp _ _ _ _ (w1.alloc (ksO 0 [] none 0 0 a))
 generalize w1.alloc (ksO 0 [] none 0 0 a) = w3 at *
 generalize w1.heap.size = bx at *
 go_wp2_with fail
 refine (HW1.out _ HS3.out.P).mono ?_;rintro e wa ⟨rfl,hP,hT⟩
 have HSa:=Lib.hid (HS3.out.call hP hT)
 clear hP hT HW1 HS3
 go_wp2_with fail
 refine (HW2.out _ HSa.out.P).mono ?_;rintro e wb ⟨rfl,hP,hT⟩
 have HSb:=Lib.hid (HSa.out.call hP hT)
 clear hP hT HW2 HSa
 go_wp2_with fail
 refine (HW3.out _ HSb.out.P).mono ?_;rintro e wc ⟨rfl,hP,hT⟩
 have HSc:=Lib.hid (HSb.out.call hP hT)
 clear hP hT HW3 HSb
 go_wp2_with fail
 refine (HW4.out _ HSc.out.P).mono ?_;rintro e wd ⟨rfl,hP,hT⟩
 have HSd:=Lib.hid (HSc.out.call hP hT)
 clear hP hT HW4 HSc
 obtain ⟨x0,x1,x2,x3,x4,xf0,xf1,xf2,xf3,xf4,xl⟩:=HSd.out.c5 0 rfl
 go_wp2_with fail
 cases b with
 | false =>
  have hp:=HP.out
  rw [if_neg (by decide)] at hp
  have HSK2:Hid (Stk (wrong E (inc s)) (must E [59] (pText E (inc s)).2)):=by rw [← hp];exact HSK.out
  clear hp HP HSK
  refine (HKN.out _ rfl _ HSd.out.P).mono ?_
  rintro e w5 ⟨-,hbad⟩
  obtain ⟨rfl,hT⟩:=hbad (wrong_code E _)
  go_wp2_with fail
  exact ⟨rfl,.thr (wrong_code E _) ⟨rfl,hT⟩ HSd.out.T HSK2.out⟩
 | true =>
  have hp:=HP.out
  rw [if_pos rfl] at hp
  have HP2:Hid (pText E (inc s) = (((pn E (inc s)).text,(pn E (inc s)).at'),inc (inc s))):=hp
  refine (HKN.out _ rfl _ HSd.out.P).mono ?_
  rintro e w5 ⟨hok,-⟩
  obtain ⟨rfl,hP,hT⟩:=hok HC.out
  have HS5:=Lib.hid (HSd.out.call hP hT)
  have HMS:=Lib.hid (fun W hW=>must_any p v E (inc (inc s)) [59] W hW)
  clear hP hT hok HKN HSd HP hp HSK
  clear x0 x1 x2 x3 x4 xf0 xf1 xf2 xf3 xf4 xl
  obtain ⟨x0,x1,x2,x3,x4,xf0,xf1,xf2,xf3,xf4,xl⟩:=HS5.out.c5 0 rfl
  generalize pn E (inc s) = t1 at *
  obtain ⟨kd1,u1,nm1,a1⟩:=t1
  go_upto_region 18 with fail
  have HS6:=Lib.hid ((HS5.out.setL 0 rfl 0 (.int .i64 6)).setL 0 rfl 1 (.string ⟨u1.toArray⟩))
  generalize ((w5.setCell _ _).setCell _ _) = w6 at HS6 ⊢
  clear HS5
  clear x0 x1 x2 x3 x4 xf0 xf1 xf2 xf3 xf4 xl
  go_wp2_with fail
  have HSK2:Hid (Stk (must E [59] (inc (inc s))) (must E [59] (pText E (inc s)).2)):=by
   have hp2:pText E (inc s) = ((u1,a1),inc (inc s)):=HP2.out
   rw [hp2]
   exact Stk.refl _
  refine (HMS.out _ HS6.out.P).mono ?_
  rintro e w7 ⟨hok,hbad⟩
  rcases Classical.em ((must E [59] (inc (inc s))).code = 0) with hc | hc
  rotate_left
  ·obtain ⟨rfl,hT⟩:=hbad hc
   go_wp2_with fail
   exact ⟨rfl,.thr hc ⟨rfl,hT⟩ (HS6.out).T (HSK2.out)⟩
  obtain ⟨rfl,hP,hT⟩:=hok hc
  have HS7:=Lib.hid (HS6.out.call hP hT)
  clear hP hT hok hbad hc
  clear HMS HS6
  obtain ⟨y0,y1,y2,y3,y4,yf0,yf1,yf2,yf3,yf4,yl⟩:=HS7.out.c5 0 rfl
  obtain ⟨r0,r1,r2,r3,r4,rf0,rf1,rf2,rf3,rf4,rl⟩:=HS7.out.c5 1 rfl
  go_wp2_with fail
  have HSH:=Lib.hid (HS7.out.set5 1 rfl (.int .i64 6) (.string ⟨u1.toArray⟩) (.float .f64 0) (.slice none 0 0) (.int .i64 a))
  clear HS7
  generalize (((((w7.setCell _ _).setCell _ _).setCell _ _).setCell _ _).setCell _ _) = wf at HSH ⊢
  obtain ⟨z0,z1,z2,z3,z4,zf0,zf1,zf2,zf3,zf4,zl⟩:=HSH.out.c5 1 rfl
  refine bodyPost_ret (v:=.agg #[.int .i64 6,.string ⟨u1.toArray⟩,.float .f64 0,.slice none 0 0,.int .i64 a]) (by simp [results,Tryz.results103,go_sem,z0,z1,z2,z3,z4]) rfl ?_
  have hp2:pText E (inc s) = ((u1,a1),inc (inc s)):=HP2.out
  rw [hp2]
  exact .ok (.inl rfl) (by have h2:s.i + 2 ≤ (must E [59] (inc (inc s))).i:=must_i (inc (inc s));show s.i < (must E [59] (inc (inc s))).i;omega) (HSH.out.leaf (.mk 6 u1 0 [] a) rfl)
set_option maxHeartbeats 4000000 in
theorem step_rem {p:Nat} {v:Value} {E:PE} {f:Nat} (s:PS) (x:Nd) (s2:PS) (W:World) (hr:stepR E f s = some (x,s2)) (h:PAt W p v E s) (h1:isW E wCopy s = false) (h2:isW E wRun s = false) (h3:isW E wWork s = false) (h4:isW E wMk s = false) (h5:isW E wRem s = true):Calls Tryz.prog 103 #[PP p] W (NodeR p v E s.i s2 x W):=by
 have HS:=Lib.hid (SW.start h)
 have HN:=Lib.hid (fun W h=>now_any p v E s W h)
 have HW1:=Lib.hid (fun W hW=>word_any p v E s wCopy false W hW h1)
 have HW2:=Lib.hid (fun W hW=>word_any p v E s wRun false W hW h2)
 have HW3:=Lib.hid (fun W hW=>word_any p v E s wWork false W hW h3)
 have HW4:=Lib.hid (fun W hW=>word_any p v E s wMk false W hW h4)
 have HW5:=Lib.hid (fun W hW=>(word_any p v E s wRem true W hW h5:Calls Tryz.prog _ _ W (StpR p v E (inc s) (.bool true) W)))
 obtain ⟨hi,hsT,htk⟩:=h.moreW h5
 have hk:=isW_kind h5
 rw [htk] at hk
 have hc:(inc s).code = 0:=h.c0
 rw [stepR,if_neg (by rw [h1];decide),if_neg (by rw [h2];decide),if_pos (by simp [h3,h4,h5]),hsT,htk,hk.2] at hr
 rw [if_pos rfl] at hr
 cases hr
 obtain ⟨b,hb⟩:∃ b,((pn E (inc s)).kind == 3) = b:=⟨_,rfl⟩
 have hpN:=pText_pn (E:=E) (s:=inc s) hc hb
 have HKN:=Lib.hid (fun s2 (h2:if b = true then s2 = inc (inc s) else s2 = wrong E (inc s)) W (hW:PAt W p v E (inc s))=>kindT_any p v E (inc s) W hW s2 b hb h2)
 have HSK:=Lib.hid (stk_must E [59] (pText E (inc s)).2)
 have HP:=Lib.hid hpN
 have HC:=Lib.hid hc
 clear h hk hsT htk hc hb hpN h1 h2 h3 h4 h5
 generalize pn E s = t at *
 obtain ⟨kd,u,nm,a⟩:=t
 go_enter Tryz.func103,Tryz.ntmps103
 go_upto_region 1 with fail
 have HS0:=Lib.hid (HS.out.alloc (ndO zero (.slice none 0 0)))
 clear HS
 change Code.wp _ _ _ _ (W.alloc (ndO zero (.slice none 0 0)))
 generalize W.alloc (ndO zero (.slice none 0 0)) = w0 at *
 generalize W.heap.size = br at *
 go_wp2_with fail
 refine (HN.out _ HS0.out.P).mono ?_;rintro e w1 ⟨rfl,hb1⟩
 have HS3:=Lib.hid ((HS0.out.call (HS0.out.P.below hb1) (Turned.of_below hb1)).alloc (ksO 0 [] none 0 0 a))
 clear hb1 HN HS0
 go_upto_region 3 with fail
 change Code.wp _ _ _ _ (w1.alloc (ksO 0 [] none 0 0 a))
 generalize w1.alloc (ksO 0 [] none 0 0 a) = w3 at *
 generalize w1.heap.size = bx at *
 go_wp2_with fail
 refine (HW1.out _ HS3.out.P).mono ?_;rintro e wa ⟨rfl,hP,hT⟩
 have HSa:=Lib.hid (HS3.out.call hP hT)
 clear hP hT HW1 HS3
 go_wp2_with fail
 refine (HW2.out _ HSa.out.P).mono ?_;rintro e wb ⟨rfl,hP,hT⟩
 have HSb:=Lib.hid (HSa.out.call hP hT)
 clear hP hT HW2 HSa
 go_wp2_with fail
 refine (HW3.out _ HSb.out.P).mono ?_;rintro e wc ⟨rfl,hP,hT⟩
 have HSc:=Lib.hid (HSb.out.call hP hT)
 clear hP hT HW3 HSb
 go_wp2_with fail
 refine (HW4.out _ HSc.out.P).mono ?_;rintro e wd ⟨rfl,hP,hT⟩
 have HSd:=Lib.hid (HSc.out.call hP hT)
 clear hP hT HW4 HSc
 go_wp2_with fail
 refine (HW5.out _ HSd.out.P).mono ?_;rintro e we ⟨rfl,hP,hT⟩
 have HSe:=Lib.hid (HSd.out.call hP hT)
 clear hP hT HW5 HSd
 obtain ⟨x0,x1,x2,x3,x4,xf0,xf1,xf2,xf3,xf4,xl⟩:=HSe.out.c5 0 rfl
 go_wp2_with fail
 cases b with
 | false =>
  have hp:=HP.out
  rw [if_neg (by decide)] at hp
  have HSK2:Hid (Stk (wrong E (inc s)) (must E [59] (pText E (inc s)).2)):=by rw [← hp];exact HSK.out
  clear hp HP HSK
  refine (HKN.out _ rfl _ HSe.out.P).mono ?_
  rintro e w5 ⟨-,hbad⟩
  obtain ⟨rfl,hT⟩:=hbad (wrong_code E _)
  go_wp2_with fail
  exact ⟨rfl,.thr (wrong_code E _) ⟨rfl,hT⟩ HSe.out.T HSK2.out⟩
 | true =>
  have hp:=HP.out
  rw [if_pos rfl] at hp
  have HP2:Hid (pText E (inc s) = (((pn E (inc s)).text,(pn E (inc s)).at'),inc (inc s))):=hp
  refine (HKN.out _ rfl _ HSe.out.P).mono ?_
  rintro e w5 ⟨hok,-⟩
  obtain ⟨rfl,hP,hT⟩:=hok HC.out
  have HS5:=Lib.hid (HSe.out.call hP hT)
  have HMS:=Lib.hid (fun W hW=>must_any p v E (inc (inc s)) [59] W hW)
  clear hP hT hok HKN HSe HP hp HSK
  clear x0 x1 x2 x3 x4 xf0 xf1 xf2 xf3 xf4 xl
  obtain ⟨x0,x1,x2,x3,x4,xf0,xf1,xf2,xf3,xf4,xl⟩:=HS5.out.c5 0 rfl
  generalize pn E (inc s) = t1 at *
  obtain ⟨kd1,u1,nm1,a1⟩:=t1
  go_upto_region 18 with fail
  have HS6:=Lib.hid ((HS5.out.setL 0 rfl 0 (.int .i64 7)).setL 0 rfl 1 (.string ⟨u1.toArray⟩))
  generalize ((w5.setCell _ _).setCell _ _) = w6 at HS6 ⊢
  clear HS5
  clear x0 x1 x2 x3 x4 xf0 xf1 xf2 xf3 xf4 xl
  go_wp2_with fail
  have HSK2:Hid (Stk (must E [59] (inc (inc s))) (must E [59] (pText E (inc s)).2)):=by
   have hp2:pText E (inc s) = ((u1,a1),inc (inc s)):=HP2.out
   rw [hp2]
   exact Stk.refl _
  refine (HMS.out _ HS6.out.P).mono ?_
  rintro e w7 ⟨hok,hbad⟩
  rcases Classical.em ((must E [59] (inc (inc s))).code = 0) with hc | hc
  rotate_left
  ·obtain ⟨rfl,hT⟩:=hbad hc
   go_wp2_with fail
   exact ⟨rfl,.thr hc ⟨rfl,hT⟩ (HS6.out).T (HSK2.out)⟩
  obtain ⟨rfl,hP,hT⟩:=hok hc
  have HS7:=Lib.hid (HS6.out.call hP hT)
  clear hP hT hok hbad hc
  clear HMS HS6
  obtain ⟨y0,y1,y2,y3,y4,yf0,yf1,yf2,yf3,yf4,yl⟩:=HS7.out.c5 0 rfl
  obtain ⟨r0,r1,r2,r3,r4,rf0,rf1,rf2,rf3,rf4,rl⟩:=HS7.out.c5 1 rfl
  go_wp2_with fail
  have HSH:=Lib.hid (HS7.out.set5 1 rfl (.int .i64 7) (.string ⟨u1.toArray⟩) (.float .f64 0) (.slice none 0 0) (.int .i64 a))
  clear HS7
  generalize (((((w7.setCell _ _).setCell _ _).setCell _ _).setCell _ _).setCell _ _) = wf at HSH ⊢
  obtain ⟨z0,z1,z2,z3,z4,zf0,zf1,zf2,zf3,zf4,zl⟩:=HSH.out.c5 1 rfl
  refine bodyPost_ret (v:=.agg #[.int .i64 7,.string ⟨u1.toArray⟩,.float .f64 0,.slice none 0 0,.int .i64 a]) (by simp [results,Tryz.results103,go_sem,z0,z1,z2,z3,z4]) rfl ?_
  have hp2:pText E (inc s) = ((u1,a1),inc (inc s)):=HP2.out
  rw [hp2]
  exact .ok (.inl rfl) (by have h2:s.i + 2 ≤ (must E [59] (inc (inc s))).i:=must_i (inc (inc s));show s.i < (must E [59] (inc (inc s))).i;omega) (HSH.out.leaf (.mk 7 u1 0 [] a) rfl)
set_option maxHeartbeats 4000000 in
theorem step_run {p:Nat} {v:Value} {E:PE} {f:Nat} (s:PS) (x:Nd) (s2:PS) (W:World) (hr:stepR E f s = some (x,s2)) (h:PAt W p v E s) (hf:16 * ms E s + 8 ≤ f) (h1:isW E wCopy s = false) (h2:isW E wRun s = true):Calls Tryz.prog 103 #[PP p] W (NodeR p v E s.i s2 x W):=by
 have HS:=Lib.hid (SW.start h)
 have HN:=Lib.hid (fun W h=>now_any p v E s W h)
 have HW1:=Lib.hid (fun W hW=>word_any p v E s wCopy false W hW h1)
 have HW2:=Lib.hid (fun W hW=>(word_any p v E s wRun true W hW h2:Calls Tryz.prog _ _ W (StpR p v E (inc s) (.bool true) W)))
 obtain ⟨hi,hsT,htk⟩:=h.moreW h2
 have hk:=isW_kind h2
 rw [htk] at hk
 have hmi:=ms_inc (E:=E) (s:=s) (by rw [htk,hk.1];decide)
 rw [hsT] at hmi
 rw [stepR,if_neg (by rw [h1];decide),if_pos h2,hsT,htk] at hr
 cases hra:run E f .block (inc s) with
 | none=>rw [hra] at hr;cases hr
 | some r =>
 obtain ⟨ys,s4⟩:=r
 rw [hra] at hr
 match ys,hr with
 | [],hr=>cases hr
 | _ :: _ :: _,hr=>cases hr
 | [y],hr =>
 simp only at hr
 cases hr
 have HJ:=Lib.hid (fun W hW=>(qjobs_all p v E f).blocked (inc s) y s2 W (by simp only [rank];omega) hra hW)
 clear hf h hra hmi hsT htk h1 h2
 generalize pn E s = t at *
 obtain ⟨kd,u,nm,a⟩:=t
 go_enter Tryz.func103,Tryz.ntmps103
 go_upto_region 1 with fail
 have HS0:=Lib.hid (HS.out.alloc (ndO zero (.slice none 0 0)))
 clear HS
 change Code.wp _ _ _ _ (W.alloc (ndO zero (.slice none 0 0)))
 generalize W.alloc (ndO zero (.slice none 0 0)) = w0 at *
 generalize W.heap.size = br at *
 go_wp2_with fail
 refine (HN.out _ HS0.out.P).mono ?_;rintro e w1 ⟨rfl,hb1⟩
 have HS3:=Lib.hid ((HS0.out.call (HS0.out.P.below hb1) (Turned.of_below hb1)).alloc (ksO 0 [] none 0 0 a))
 clear hb1 HN HS0
 go_upto_region 3 with fail
 change Code.wp _ _ _ _ (w1.alloc (ksO 0 [] none 0 0 a))
 generalize w1.alloc (ksO 0 [] none 0 0 a) = w3 at *
 generalize w1.heap.size = bx at *
 go_wp2_with fail
 refine (HW1.out _ HS3.out.P).mono ?_;rintro e wa ⟨rfl,hP,hT⟩
 have HSa:=Lib.hid (HS3.out.call hP hT)
 clear hP hT HW1 HS3
 go_wp2_with fail
 refine (HW2.out _ HSa.out.P).mono ?_;rintro e wc ⟨rfl,hP,hT⟩
 have HSc:=Lib.hid (HSa.out.call hP hT)
 clear hP hT HW2 HSa
 obtain ⟨x0,x1,x2,x3,x4,xf0,xf1,xf2,xf3,xf4,xl⟩:=HSc.out.c5 0 rfl
 go_upto_region 10 with fail
 have HS5:=Lib.hid (HSc.out.setL 0 rfl 0 (.int .i64 4))
 generalize (wc.setCell _ _) = wd at HS5 ⊢
 clear HSc
 clear x0 x1 x2 x3 x4 xf0 xf1 xf2 xf3 xf4 xl
 go_wp2_with fail
 refine (HJ.out _ HS5.out.P).mono ?_
 rintro e w6 hnr
 rcases hnr with ⟨tw6,htw6,hiw6,aw6,nw6,Sw6,rfl,hk,hS,hP,hT⟩ | ⟨hc,rfl,hT⟩
 rotate_left
 ·go_wp2_with fail
  exact ⟨rfl,.thr hc ⟨rfl,hT⟩ (HS5.out).T (Stk.refl _)⟩
 have HS6:=Lib.hid (HS5.out.callT hk hS hP hT)
 have HAw6:=Lib.hid (And.intro htw6 hiw6)
 clear hk hS hP hT htw6 hiw6
 clear HJ HS5
 obtain ⟨x0,x1,x2,x3,x4,xf0,xf1,xf2,xf3,xf4,xl⟩:=HS6.out.c5 0 rfl
 go_upto_region 11 with fail
 have HSd:=Lib.hid (SW.buildAt [_] (HS6.out.setL 0 rfl 3 (.slice (some ⟨w6.heap.size,0,none⟩) 1 1)) [y] rfl (by simp) w6.heap.size (by simp) #[.int .i64 y.kind,.string ⟨y.text.toArray⟩,.float .f64 y.num,.slice aw6 y.kids.length nw6,.int .i64 y.at'] rfl 1 rfl)
 generalize (World.alloc (w6.setCell _ _) _) = w8 at HSd ⊢
 clear HS6
 clear x0 x1 x2 x3 x4 xf0 xf1 xf2 xf3 xf4 xl
 obtain ⟨y0,y1,y2,y3,y4,yf0,yf1,yf2,yf3,yf4,yl⟩:=HSd.out.c5 0 rfl
 obtain ⟨r0,r1,r2,r3,r4,rf0,rf1,rf2,rf3,rf4,rl⟩:=HSd.out.c5 1 rfl
 go_wp2_with fail
 have HSH:=Lib.hid (HSd.out.set5 1 rfl (.int .i64 4) (.string ⟨#[]⟩) (.float .f64 0) (.slice (some ⟨w6.heap.size,0,none⟩) 1 1) (.int .i64 a))
 clear HSd
 generalize (((((w8.setCell _ _).setCell _ _).setCell _ _).setCell _ _).setCell _ _) = wf at HSH ⊢
 obtain ⟨z0,z1,z2,z3,z4,zf0,zf1,zf2,zf3,zf4,zl⟩:=HSH.out.c5 1 rfl
 refine bodyPost_ret (v:=.agg #[.int .i64 4,.string ⟨#[]⟩,.float .f64 0,.slice (some ⟨w6.heap.size,0,none⟩) 1 1,.int .i64 a]) (by simp [results,Tryz.results103,go_sem,z0,z1,z2,z3,z4]) rfl ?_
 exact .ok HAw6.out.1 (by have h1:s.i + 1 < tw6.i:=HAw6.out.2;omega) (HSH.out.node (List.mem_cons_self ..) (.mk 4 [] 0 [y] a) rfl)
end Go.Proofs.YtmfpmandkhiknaaGreatDoor.qar
