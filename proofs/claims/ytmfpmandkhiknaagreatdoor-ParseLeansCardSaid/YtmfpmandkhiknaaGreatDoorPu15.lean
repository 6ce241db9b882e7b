/-
  Proved: plain facts on the document's parser: the arguments as the program reads them. Conditions: as each theorem says. No program is in sight.
  Proved: what in, args of the program's parser leave. Conditions: as each theorem says.
  Proved: what primary of the program's parser leaves at a number, a text, a name, where nothing fits. Conditions: as each theorem says.
  Proved: what primary of the program's parser leaves at a call, a parenthesis, where nothing fits. Conditions: as each theorem says.
-/
import Derived.Test.YtmfpmandkhiknaaGreatDoorPu10
import Derived.Test.YtmfpmandkhiknaaGreatDoorPu14
set_option linter.unusedVariables false
set_option linter.unusedSimpArgs false
namespace Go.Proofs.YtmfpmandkhiknaaGreatDoor.par
open Go Go.RowKit
open lex (Tk)
def argsP (E:PE):Nat → List Nd → PS → Option (List Nd × PS)
 | 0,_,_=>none
 | k + 1,ks,t=>match run E k .inner t with
  | some ([x],s2)=>if isS E [41] s2 then some (ks ++ [x],inc (sT E s2)) else if isS E [44] s2 then argsP E k (ks ++ [x]) (inc (sT E s2)) else some (ks ++ [x],wrong E s2)
  | _=>none
theorem argsP_stk {E:PE}:∀ (k:Nat) (ks:List Nd) (t:PS) (kf:List Nd) (s9:PS),argsP E k ks t = some (kf,s9) → Stk t s9:=by
 intro k
 induction k with
 | zero=>intro ks t kf s9 h;rw [argsP] at h;cases h
 | succ k ih =>
  intro ks t kf s9 h
  rw [argsP] at h
  cases hr:run E k .inner t with
  | none=>rw [hr] at h;cases h
  | some r =>
   obtain ⟨xs,s2⟩:=r
   rw [hr] at h
   have h1:=run_stk E _ _ _ _ _ hr
   match xs,h with
   | [],h=>cases h
   | _ :: _ :: _,h=>cases h
   | [x],h =>
    simp only at h
    split at h
    ·cases h;exact h1.trans ((stk_sT E s2).trans (stk_inc _))
    ·split at h
     ·exact (h1.trans ((stk_sT E s2).trans (stk_inc _))).trans (ih _ _ _ _ h)
     ·cases h;exact h1.trans (stk_wrong E s2)
theorem isS_ne {E:PE} {s:PS} {g g2:List UInt8} (h:isS E g s = true) (hn:g ≠ g2):isS E g2 s = false:=by
 unfold isS at h ⊢
 rw [Bool.and_eq_true] at h
 have h2:(tk E s).text = g:=by simpa using h.2
 rw [h2]
 have:(g == g2) = false:=by simpa using hn
 rw [this,Bool.and_false]
theorem isS_bad {E:PE} {s:PS} {g:List UInt8} (h:s.code ≠ 0):isS E g s = false:=by
 unfold isS tk;rw [pT_bad h];rfl
theorem wrong_bad {E:PE} {s:PS} (h:s.code ≠ 0):wrong E s = s:=by
 unfold wrong sT tk
 rw [pT_bad h]
 exact if_neg h
theorem sT_bad {E:PE} {s:PS} (h:s.code ≠ 0):sT E s = s:=by unfold sT;rw [pT_bad h]
theorem must_bad {E:PE} {s:PS} {g:List UInt8} (h:s.code ≠ 0):must E g s = s:=by
 unfold must
 rw [isS_bad h,if_neg (by decide),sT_bad h,wrong_bad h]
theorem begins_no41 {E:PE} {s:PS} (h:isS E [41] s = true):begins E s = false:=by
 have h1:=isS_ne (g2 := [40]) h (by decide)
 have h2:=isS_ne (g2 := [45]) h (by decide)
 have h3:=isS_ne (g2 := [33]) h (by decide)
 have hk:=(isS_kind h).1
 unfold begins
 rw [h1,h2,h3,hk]
 rfl
theorem begins_bad {E:PE} {s:PS} (h:(sT E s).code ≠ 0):begins E s = false:=by
 rw [← begins_sT2]
 unfold begins
 rw [isS_bad h,isS_bad h,isS_bad h]
 have:(tk E (sT E s)).kind = 0:=by unfold tk;rw [pT_bad h];rfl
 rw [this]
 rfl
theorem inner_no {E:PE} {s:PS} (h:begins E s = false) (f:Nat):run E (f + 1) .inner s = some ([zero],wrong E s):=by
 rw [run_inner,inner2,if_neg (by rw [h];decide),wrong_sT2]
theorem args_P {E:PE}:∀ (k:Nat) (ks:List Nd) (t:PS) (kf:List Nd) (sf:PS),run E k (.args ks) t = some (kf,sf) → isS E [41] t = false → 16 * ms E t + 10 ≤ k →
  ∃ kf2 s9,argsP E k ks t = some (kf2,s9) ∧ s9.code = (must E [41] sf).code ∧ s9.bad = (must E [41] sf).bad ∧ (s9.code = 0 → kf2 = kf ∧ s9 = must E [41] sf):=by
 intro k
 induction k with
 | zero=>intro ks t kf sf h;rw [run] at h;cases h
 | succ k ih =>
  intro ks t kf sf h h41 hm
  rw [run] at h
  by_cases hc:(sT E t).code = 0
  ·rw [if_neg (by rw [h41];simp [hc]),run_sT2 E k .inner t (fun _ h=>by cases h)] at h
   rw [argsP]
   obtain ⟨x,s2,h1,h2,-⟩:=(run_ends E k .inner t trivial (by simp only [rank];omega)).one rfl
   rw [h1] at h ⊢
   simp only at h ⊢
   by_cases h44:isS E [44] s2 = true
   ·rw [if_pos h44] at h
    have h5:=isS_ne (g2 := [41]) h44 (by decide)
    rw [if_neg (by rw [h5];decide),if_pos h44]
    have hk4:(tk E s2).kind ≠ 0:=by rw [(isS_kind h44).1];decide
    have hmi:=ms_inc (E:=E) (s:=s2) hk4
    by_cases h6:isS E [41] (inc (sT E s2)) = true
    ·rw [if_pos h6] at h
     obtain ⟨k2,rfl⟩:∃ k2,k = k2 + 1 + 1:=⟨k - 2,by omega⟩
     rw [run] at h
     have hw:=wrong_code E (sT E (inc (sT E s2)))
     rw [sT_bad hw,if_pos (by rw [Bool.or_eq_true];exact .inr (by simpa using hw))] at h
     cases h
     rw [argsP,inner_no (begins_no41 h6)]
     simp only
     rw [isS_bad (wrong_code E _),isS_bad (wrong_code E _),if_neg (by decide),if_neg (by decide),wrong_bad (wrong_code E _),must_bad hw,wrong_sT2]
     exact ⟨_,_,rfl,rfl,rfl,fun h=>absurd h (wrong_code E _)⟩
    ·rw [if_neg h6,run_sT2 E k (.args _) _ (fun _ h=>by cases h)] at h
     exact ih _ _ _ _ h (by simpa using h6) (by omega)
   ·rw [if_neg h44] at h
    cases h
    rw [if_neg h44]
    by_cases h5:isS E [41] s2 = true
    ·rw [if_pos h5,must_sT2]
     have:must E [41] s2 = inc (sT E s2):=if_pos h5
     rw [this]
     exact ⟨_,_,rfl,rfl,rfl,fun _=>⟨rfl,rfl⟩⟩
    ·rw [if_neg h5,must_sT2]
     have:must E [41] s2 = wrong E (sT E s2):=if_neg h5
     rw [this,wrong_sT2]
     exact ⟨_,_,rfl,rfl,rfl,fun _=>⟨rfl,rfl⟩⟩
  ·rw [if_pos (by rw [Bool.or_eq_true];exact .inr (by simpa using hc))] at h
   cases h
   obtain ⟨k2,rfl⟩:∃ k2,k = k2 + 1:=⟨k - 1,by omega⟩
   have hw:wrong E t = sT E t:=by rw [← wrong_sT2,wrong_bad hc]
   rw [argsP,inner_no (begins_bad hc)]
   simp only
   rw [hw,isS_bad hc,isS_bad hc,if_neg (by decide),if_neg (by decide),wrong_bad hc,must_bad hc]
   exact ⟨_,_,rfl,rfl,rfl,fun h=>absurd h hc⟩
theorem Al.wrong {E:PE} {t s:PS} (h:Al E t s):par.wrong E s = par.wrong E t:=by
 rcases h with rfl | rfl
 ·rfl
 ·exact wrong_sT2 E t
end Go.Proofs.YtmfpmandkhiknaaGreatDoor.par
namespace Go.Proofs.YtmfpmandkhiknaaGreatDoor.qar
open par
open Go.RowKit
open heap
open lex (Tk TRow TkAt run_store_float add0)
set_option maxRecDepth 100000
attribute [local go_sem] run_store_float field_tok0 field_tok1 field_tok3
theorem inJ {p:Nat} {v:Value} {E:PE} {f:Nat} (J:QJobs p v E f) (s:PS) (x:Nd) (s2:PS) (W:World) (hf:16 * ms E s + rank .inner ≤ f + 1) (hr:run E (f + 1) .inner s = some ([x],s2)) (h:PAt W p v E s) :
  Calls Tryz.prog 235 #[PP p,.func (.func 108) #[PP p] #[]] W (NodeR p v E s.i s2 x W):=by
 rw [run_inner] at hr
 simp only [rank] at hf
 have hmd:ms E (deepen s) = ms E s:=rfl
 obtain ⟨x3,s3,h3,-,-⟩:=(run_ends E f (.bin 0) (deepen s) (by simp [okJ]) (by simp only [rank];omega)).one rfl
 exact inE p v E s s2 x W h fun W2 hW2 =>
  (deepE p v E s (begins E s) s3 x3 W2 hW2 (fun W3 hb3=>begins_any p v E s W3 (hW2.below hb3) _ rfl) (fun W3 hW3=>J.expr (deepen s) x3 s3 W3 (by simp only [rank];omega) h3 hW3)).mono fun e w' hd=>deep_node h.c0 hr x3 s3 h3 (fun t ht ks t2 ht2=>nb_bin ht _ _ _ _ ht2) W2 w' e hd
def ArgI (W:World) (p:Nat) (v:Value) (E:PE) (i0:Nat) (kf:List Nd) (s9:PS) (f:Nat) (k:Nat) (s2v:Value) (wr:World):Prop:=
 ∃ (ks:List Nd) (t:PS) (a:Option Addr) (n:Nat) (S:List Nat),s2v = .slice a ks.length n ∧ SW W wr p v E t [] [⟨ks,.slice a ks.length n,S⟩] ∧
  argsP E k ks t = some (kf,s9) ∧ 16 * ms E t + 10 ≤ k ∧ k ≤ f ∧ i0 ≤ t.i ∧ ks.length + ms E t ≤ 200002
def ArgR (p:Nat) (v:Value) (E:PE) (i:Nat) (s9:PS) (ks:List Nd) (w:World) (e:Ending) (w':World):Prop:=
 (s9.code = 0 ∧ i < s9.i ∧ ∃ a n S,e = .returned (.slice a ks.length n) ∧ (Tr.mk ks (.slice a ks.length n) S).ok w' ∧ (∀ b ∈ S,w.heap.size ≤ b) ∧ PAt w' p v E s9 ∧ Turned [p] w w') ∨ (s9.code ≠ 0 ∧ Thr p s9 w e w')
theorem ArgR.thr {p:Nat} {v:Value} {E:PE} {i:Nat} {s s9:PS} {ks:List Nd} {w W w':World} {e:Ending} (hc:s.code ≠ 0) (h:Thr p s W e w') (ht:Turned [p] w W) (hs:Stk s s9):ArgR p v E i s9 ks w e w':=
 have hh:=(h.from ht).stk hc hs
 .inr hh
theorem slice_len {a:Option Addr} {n m c:Nat} (h:n = m):Value.slice a n c = .slice a m c:=by rw [h]
set_option maxHeartbeats 4000000 in
theorem args_any {p:Nat} {v:Value} {E:PE} {f:Nat} (J:∀ k,k ≤ f → QJobs p v E k) (s:PS) (kf:List Nd) (s9:PS) (W:World) (hf:16 * ms E s + 10 ≤ f)
  (hr:(if isS E [41] s then some ([],inc s) else argsP E f [] s) = some (kf,s9)) (hl:E.ts.length ≤ 100000) (h:PAt W p v E s) :
  Calls Tryz.prog 243 #[PP p] W (ArgR p v E s.i s9 kf W):=by
 have HS:=Lib.hid (SW.start h)
 have hc:=h.c0
 have hle:=ms_le (s:=s) hl
 clear h
 have HSG:=Lib.hid (fun W h=>sign_any p v E s [41] _ W h rfl)
 have HJJ:=Lib.hid J
 clear J hl
 cases h41:isS E [41] s with
 | true =>
  rw [h41] at HSG
  rw [if_pos h41] at hr
  cases hr
  have HC:=Lib.hid hc
  clear hf hle h41 HJJ hc
  go_enter Tryz.func243,Tryz.ntmps243
  go_wp2_with fail
  refine (HSG.out _ HS.out.P).mono ?_;rintro e w2 ⟨rfl,hP,hT⟩
  have HS2:=Lib.hid ((HS.out.call hP hT))
  clear hP hT HSG HS
  go_wp2_with fail
  go_ret
  exact .inl ⟨HS2.out.P.c0,Nat.lt_succ_self _,none,0,[],rfl,Tr.nil _,by simp,HS2.out.P,HS2.out.T⟩
 | false =>
  rw [h41] at HSG
  rw [if_neg (by rw [h41];decide)] at hr
  have HR:Hid (argsP E f [] s = some (kf,s9) ∧ 16 * ms E s + 10 ≤ f ∧ ms E s ≤ 100001):=⟨hr,hf,hle⟩
  clear hr hf hle h41 hc
  go_enter Tryz.func243,Tryz.ntmps243
  go_wp2_with fail
  refine (HSG.out _ HS.out.P).mono ?_;rintro e w2 ⟨rfl,hP,hT⟩
  have HS2:=Lib.hid ((HS.out.call hP hT).addNil)
  clear hP hT HSG HS
  have HI0:Hid (ArgI W p v E s.i kf s9 f f (.slice none 0 0) w2):=⟨[],s,none,0,[],rfl,HS2.out,HR.out.1,HR.out.2.1,Nat.le_refl _,Nat.le_refl _,by have:=HR.out.2.2;simp;omega⟩
  clear HS2 HR
  go_upto_region 3 with fail
  go_loopg [2] f (fun k s2v wr=>ArgI W p v E s.i kf s9 f k s2v wr)
  case atStart=>exact HI0.out
  case round =>
   obtain ⟨ks,t,a,n,S,rfl,hsw,hr,hm,hkf,hti,hlen⟩:=hrel
   have HS4:=Lib.hid hsw
   have hc:=hsw.P.c0
   obtain ⟨k',rfl⟩:∃ k',gk = k' + 1:=⟨gk - 1,by omega⟩
   obtain ⟨k2,rfl⟩:∃ k2,k' = k2 + 1:=⟨k' - 1,by omega⟩
   rw [argsP] at hr
   obtain ⟨y,s5,h1,-,-⟩:=(run_ends E (k2 + 1) .inner t trivial (by simp only [rank];omega)).one rfl
   rw [h1] at hr
   simp only at hr
   have HJ:=Lib.hid (fun W hW=>inJ (HJJ.out k2 (by omega)) t y s5 W (by simp only [rank];omega) h1 hW)
   have HSK:Hid (Stk s5 s9):=by
    unfold Hid
    split at hr
    ·cases hr;exact (stk_sT E s5).trans (stk_inc _)
    ·split at hr
     ·exact ((stk_sT E s5).trans (stk_inc _)).trans (argsP_stk _ _ _ _ _ hr)
     ·cases hr;exact stk_wrong E s5
   have HR:=Lib.hid hr
   have HK:Hid (16 * ms E t + 10 ≤ k2 + 1 + 1 ∧ k2 + 1 + 1 ≤ f ∧ s.i ≤ t.i ∧ ks.length + ms E t ≤ 200002 ∧ t.code = 0):=⟨hm,hkf,hti,hlen,hc⟩
   clear hsw hr hm hkf hti hlen hc h1 HI0
   go_wp2_with fail
   refine (HJ.out _ HS4.out.P).mono ?_
   rintro e w10 hnr
   rcases hnr with ⟨t10,ht,hi,a10,n10,S10,rfl,hk,hS,hP,hT⟩ | ⟨hc,rfl,hT⟩
   rotate_left
   ·go_wp2_with fail
    exact ⟨rfl,.thr hc ⟨rfl,hT⟩ HS4.out.T HSK.out⟩
   have HS10:=Lib.hid (HS4.out.callT hk hS hP hT)
   have HA10:=Lib.hid (And.intro ht hi)
   clear hk hS hP hT ht hi HS4
   obtain ⟨a2,n2,w11,S2,hrun,hsw⟩:=((HS10.out.alloc (ndO y (.slice a10 y.kids.length n10))).drop _ ((List.Sublist.refl _).cons _)).appendS y rfl w10.heap.size (blk_new _ _) (by have:=HK.out.2.2.2.1;simp only;omega)
   have HRUN:=Lib.hid hrun
   have HS11:=Lib.hid hsw
   clear hrun hsw
   have hr:=HR.out
   rw [Al.isS HA10.out.1,Al.isS HA10.out.1,Al.sT HA10.out.1,Al.wrong HA10.out.1] at hr
   have HR2:=Lib.hid hr
   have HSG2:=Lib.hid (fun W hW=>sign_any p v E t10 [41] _ W hW rfl)
   have HMS:=Lib.hid (fun W hW=>must_any p v E t10 [44] W hW)
   have hi10:=HA10.out.2
   clear hr HR HSK HJ HA10 HS10
   have h41:isS E [41] t10 = true → sT E t10 = t10:=fun h=>(HS11.out.P.moreS h).2.1
   have h44:isS E [44] t10 = true → sT E t10 = t10:=fun h=>(HS11.out.P.moreS h).2.1
   have HQ:Hid ((isS E [41] t10 = true → sT E t10 = t10) ∧ (isS E [44] t10 = true → sT E t10 = t10)):=⟨h41,h44⟩
   clear h41 h44
   have HI10:=Lib.hid hi10
   clear hi10
   obtain ⟨q,hq⟩:∃ q,isS E [41] t10 = q:=⟨_,rfl⟩
   rw [hq] at HSG2 HR2 HQ
   clear hq
   go_wp2_with (at_builtin;refine reg.wpList_append rfl rfl rfl rfl rfl HRUN.out ?_)
   refine (HSG2.out _ HS11.out.P).mono ?_;rintro e w12 ⟨rfl,hP,hT⟩
   have HS12:=Lib.hid (HS11.out.call hP hT)
   clear hP hT HSG2 HS11 HRUN
   cases q with
   | true =>
    have hr:=HR2.out
    rw [if_pos rfl,HQ.out.1 rfl] at hr
    cases hr
    clear HR2 HQ HMS
    go_wp2_with fail
    go_ret
    have hP:=HS12.out.P
    have hk:=HS12.out.trees _ (List.mem_cons_self ..)
    exact .inl ⟨hP.c0,by have:=HK.out.2.2.1;have:=HI10.out;show s.i < t10.i + 1;omega,a2,n2,S2,by simp,hk.1,hk.2,hP,HS12.out.T⟩
   | false =>
    have hr:=HR2.out
    rw [if_neg (by decide)] at hr
    cases h4:isS E [44] t10 with
    | false =>
     rw [if_neg (by rw [h4];decide)] at hr
     cases hr
     have HM2:Hid (must E [44] t10 = wrong E t10):=by
      unfold Hid must
      rw [if_neg (by rw [h4];decide),wrong_sT2]
     rw [HM2.out] at HMS
     clear HR2 HQ h4 HM2
     go_wp2_with fail
     refine (HMS.out _ HS12.out.P).mono ?_
     rintro e w13 ⟨-,hbad⟩
     obtain ⟨rfl,hT⟩:=hbad (wrong_code E t10)
     go_wp2_with fail
     exact ⟨rfl,.thr (wrong_code E t10) ⟨rfl,hT⟩ HS12.out.T (Stk.refl _)⟩
    | true =>
     rw [if_pos h4,HQ.out.2 h4] at hr
     have HM2:Hid (must E [44] t10 = inc t10):=by
      unfold Hid must
      rw [if_pos h4,HQ.out.2 h4]
     rw [HM2.out] at HMS
     have HR3:=Lib.hid hr
     clear HR2 HQ h4 HM2 hr
     go_wp2_with fail
     refine (HMS.out _ HS12.out.P).mono ?_
     rintro e w13 ⟨hok,-⟩
     obtain ⟨rfl,hP,hT⟩:=hok HS12.out.P.c0
     have HS13:=Lib.hid (HS12.out.call hP hT)
     clear hP hT hok
     have HB:Hid (ArgI W p v E s.i kf s9 f (k2 + 1) (.slice a2 (ks.length + 1) n2) w13):=⟨ks ++ [y],inc t10,a2,n2,S2,slice_len (by simp),HS13.out,HR3.out,by
      have:=HS13.out.P.ms (s:=t) HK.out.2.2.2.2 (by have:=HI10.out;show t.i < t10.i + 1;omega)
      have:=HK.out.1
      omega,by have:=HK.out.2.1;omega,by have:=HK.out.2.2.1;have:=HI10.out;show s.i ≤ t10.i + 1;omega,by
      have:=HS13.out.P.ms (s:=t) HK.out.2.2.2.2 (by have:=HI10.out;show t.i < t10.i + 1;omega)
      have:=HK.out.2.2.2.1
      rw [List.length_append]
      simp only [List.length_cons,List.length_nil]
      omega⟩
     clear HS13 HS12 HR3 HK HI10
     go_wp2_with fail
     go_roundg (k2 + 1)
     case rel=>exact HB.out
     case measure=>omega
theorem more_at {E:PE} {s:PS} (hc:s.code = 0) {k:Int} (hk:(pn E s).kind = k) (h0:k ≠ 0):tk E s = pn E s ∧ sT E s = s:=by
 have hk2:(tk E s).kind ≠ 0:=by rw [← (pn_kt (E:=E) hc).1,hk];exact h0
 exact ⟨(pn_tk (E:=E) hc hk2).1.symm,(tk_kind hk2).2.2⟩
set_option maxHeartbeats 4000000 in
theorem prim_num {p:Nat} {v:Value} {E:PE} {f:Nat} (s:PS) (x:Nd) (s2:PS) (W:World) (hf:16 * ms E s + rank .primary ≤ f + 1) (hr:run E (f + 1) .primary s = some ([x],s2)) (h:PAt W p v E s) (hk:(pn E s).kind = 2):Calls Tryz.prog 234 #[PP p] W (NodeR p v E s.i s2 x W):=by
 have HS:=Lib.hid (SW.start h)
 have HN:=Lib.hid (fun W h=>now_any p v E s W h)
 obtain ⟨ht,hsT⟩:=more_at h.c0 hk (by decide)
 have hi:=(h.more (by rw [hk];decide)).2.1
 rw [run,if_pos (by rw [ht];exact hk),ht,hsT] at hr
 cases hr
 clear hf h ht hsT
 generalize pn E s = t at *
 have HK:=Lib.hid hk
 clear hk
 go_enter Tryz.func234,Tryz.ntmps234
 go_wp2_with fail
 have HS0:=Lib.hid (HS.out.alloc (ndO zero (.slice none 0 0)))
 clear HS
 refine (HN.out _ HS0.out.P).mono ?_;rintro e w1 ⟨rfl,hb1⟩
 have HS1:=Lib.hid ((HS0.out.call (HS0.out.P.below hb1) (Turned.of_below hb1)).alloc (tnO t))
 clear hb1 HN HS0
 go_upto_region 2 with fail
 change Code.wp _ _ _ _ (w1.alloc (tnO t))
 generalize w1.alloc (tnO t) = w2 at *
 generalize w1.heap.size = bt at *
 obtain ⟨t0,t1,t2,t3,tf0,tf1,tf2,tf3,tl⟩:=HS1.out.c4 0 rfl
 go_upto_region 4 with fail
 have HS3:=Lib.hid (HS1.out.alloc (ksO 0 t.text none 0 0 t.at'))
 change Code.wp _ _ _ _ (w2.alloc (ksO 0 t.text none 0 0 t.at'))
 generalize w2.alloc (ksO 0 t.text none 0 0 t.at') = w3 at *
 generalize w2.heap.size = bx at *
 generalize W.heap.size = br at *
 clear t0 t1 t2 t3 tf0 tf1 tf2 tf3 tl
 clear HS1
 obtain ⟨t0,t1,t2,t3,tf0,tf1,tf2,tf3,tl⟩:=HS3.out.c4 1 rfl
 obtain ⟨x0,x1,x2,x3,x4,xf0,xf1,xf2,xf3,xf4,xl⟩:=HS3.out.c5 0 rfl
 obtain ⟨kd,u,nm,a⟩:=t
 obtain rfl:kd = 2:=HK.out
 go_upto_region 5 with fail
 go_region
 all_goals
  have HS4:=Lib.hid ((((HS3.out.setL 0 rfl 0 (.int .i64 15)).setL 0 rfl 2 (.float .f64 nm)).setL 0 rfl 1 (.string ⟨#[]⟩)).drew)
  generalize (((w3.setCell _ _).setCell _ _).setCell _ _).drew = w4 at HS4 ⊢
  clear HS3
  clear t0 t1 t2 t3 tf0 tf1 tf2 tf3 tl
  clear x0 x1 x2 x3 x4 xf0 xf1 xf2 xf3 xf4 xl
  have hcs:=HS4.out.P.cells
  have q1:=hcs.c1
  have f1:=hcs.f1
  have hpl:=HS4.out.P.lt
  have hlen:=HS4.out.P.len
  clear hcs
  obtain ⟨y0,y1,y2,y3,y4,yf0,yf1,yf2,yf3,yf4,yl⟩:=HS4.out.c5 0 rfl
  obtain ⟨r0,r1,r2,r3,r4,rf0,rf1,rf2,rf3,rf4,rl⟩:=HS4.out.c5 2 rfl
  obtain ⟨yn,ym⟩:=HS4.out.ne 0 rfl
  obtain ⟨rn,rm⟩:=HS4.out.ne 2 rfl
  go_wp2_with fail
  have HSG:=Lib.hid ((HS4.out.inc hi).set5 2 rfl (.int .i64 15) (.string ⟨#[]⟩) (.float .f64 nm) (.slice none 0 0) (.int .i64 a))
  clear HS4
  generalize ((((((w4.setCell _ _).setCell _ _).setCell _ _).setCell _ _).setCell _ _).setCell _ _) = wf at HSG ⊢
  obtain ⟨z0,z1,z2,z3,z4,zf0,zf1,zf2,zf3,zf4,zl⟩:=HSG.out.c5 2 rfl
  refine bodyPost_ret (v:=.agg #[.int .i64 15,.string ⟨#[]⟩,.float .f64 nm,.slice none 0 0,.int .i64 a]) (by simp [results,Tryz.results234,go_sem,z0,z1,z2,z3,z4]) rfl ?_
  exact .ok (.inl rfl) (Nat.lt_succ_self _) (HSG.out.leaf (.mk 15 [] nm [] a) rfl)
set_option maxHeartbeats 4000000 in
theorem prim_text {p:Nat} {v:Value} {E:PE} {f:Nat} (s:PS) (x:Nd) (s2:PS) (W:World) (hf:16 * ms E s + rank .primary ≤ f + 1) (hr:run E (f + 1) .primary s = some ([x],s2)) (h:PAt W p v E s) (hk:(pn E s).kind = 3):Calls Tryz.prog 234 #[PP p] W (NodeR p v E s.i s2 x W):=by
 have HS:=Lib.hid (SW.start h)
 have HN:=Lib.hid (fun W h=>now_any p v E s W h)
 obtain ⟨ht,hsT⟩:=more_at h.c0 hk (by decide)
 have hi:=(h.more (by rw [hk];decide)).2.1
 rw [run,if_neg (by rw [ht,hk];decide),if_pos (by rw [ht];exact hk),ht,hsT] at hr
 cases hr
 clear hf h ht hsT
 generalize pn E s = t at *
 have HK:=Lib.hid hk
 clear hk
 go_enter Tryz.func234,Tryz.ntmps234
 go_wp2_with fail
 have HS0:=Lib.hid (HS.out.alloc (ndO zero (.slice none 0 0)))
 clear HS
 refine (HN.out _ HS0.out.P).mono ?_;rintro e w1 ⟨rfl,hb1⟩
 have HS1:=Lib.hid ((HS0.out.call (HS0.out.P.below hb1) (Turned.of_below hb1)).alloc (tnO t))
 clear hb1 HN HS0
 go_upto_region 2 with fail
 change Code.wp _ _ _ _ (w1.alloc (tnO t))
 generalize w1.alloc (tnO t) = w2 at *
 generalize w1.heap.size = bt at *
 obtain ⟨t0,t1,t2,t3,tf0,tf1,tf2,tf3,tl⟩:=HS1.out.c4 0 rfl
 go_upto_region 4 with fail
 have HS3:=Lib.hid (HS1.out.alloc (ksO 0 t.text none 0 0 t.at'))
 change Code.wp _ _ _ _ (w2.alloc (ksO 0 t.text none 0 0 t.at'))
 generalize w2.alloc (ksO 0 t.text none 0 0 t.at') = w3 at *
 generalize w2.heap.size = bx at *
 generalize W.heap.size = br at *
 clear t0 t1 t2 t3 tf0 tf1 tf2 tf3 tl
 clear HS1
 obtain ⟨t0,t1,t2,t3,tf0,tf1,tf2,tf3,tl⟩:=HS3.out.c4 1 rfl
 obtain ⟨x0,x1,x2,x3,x4,xf0,xf1,xf2,xf3,xf4,xl⟩:=HS3.out.c5 0 rfl
 obtain ⟨kd,u,nm,a⟩:=t
 obtain rfl:kd = 3:=HK.out
 go_upto_region 18 with fail
 have HS4:=Lib.hid (HS3.out.setL 0 rfl 0 (.int .i64 16))
 generalize (w3.setCell _ _) = w4 at HS4 ⊢
 clear HS3
 clear t0 t1 t2 t3 tf0 tf1 tf2 tf3 tl
 clear x0 x1 x2 x3 x4 xf0 xf1 xf2 xf3 xf4 xl
 have hcs:=HS4.out.P.cells
 have q1:=hcs.c1
 have f1:=hcs.f1
 have hpl:=HS4.out.P.lt
 have hlen:=HS4.out.P.len
 clear hcs
 obtain ⟨y0,y1,y2,y3,y4,yf0,yf1,yf2,yf3,yf4,yl⟩:=HS4.out.c5 0 rfl
 obtain ⟨r0,r1,r2,r3,r4,rf0,rf1,rf2,rf3,rf4,rl⟩:=HS4.out.c5 2 rfl
 obtain ⟨yn,ym⟩:=HS4.out.ne 0 rfl
 obtain ⟨rn,rm⟩:=HS4.out.ne 2 rfl
 go_wp2_with fail
 have HSG:=Lib.hid ((HS4.out.inc hi).set5 2 rfl (.int .i64 16) (.string ⟨u.toArray⟩) (.float .f64 0) (.slice none 0 0) (.int .i64 a))
 clear HS4
 generalize ((((((w4.setCell _ _).setCell _ _).setCell _ _).setCell _ _).setCell _ _).setCell _ _) = wf at HSG ⊢
 obtain ⟨z0,z1,z2,z3,z4,zf0,zf1,zf2,zf3,zf4,zl⟩:=HSG.out.c5 2 rfl
 refine bodyPost_ret (v:=.agg #[.int .i64 16,.string ⟨u.toArray⟩,.float .f64 0,.slice none 0 0,.int .i64 a]) (by simp [results,Tryz.results234,go_sem,z0,z1,z2,z3,z4]) rfl ?_
 exact .ok (.inl rfl) (Nat.lt_succ_self _) (HSG.out.leaf (.mk 16 u 0 [] a) rfl)
set_option maxHeartbeats 4000000 in
theorem prim_name {p:Nat} {v:Value} {E:PE} {f:Nat} (s:PS) (x:Nd) (s2:PS) (W:World) (hf:16 * ms E s + rank .primary ≤ f + 1) (hr:run E (f + 1) .primary s = some ([x],s2)) (h:PAt W p v E s) (hk:(pn E s).kind = 1) (hcl:called E s = false) (hkp:kept (pn E s).text = false):Calls Tryz.prog 234 #[PP p] W (NodeR p v E s.i s2 x W):=by
 have HS:=Lib.hid (SW.start h)
 have HN:=Lib.hid (fun W h=>now_any p v E s W h)
 obtain ⟨ht,hsT⟩:=more_at h.c0 hk (by decide)
 have hi:=(h.more (by rw [hk];decide)).2.1
 have HCL:=Lib.hid (fun W h=>called_any p v E s W h)
 rw [hcl] at HCL
 have HRS:=Lib.hid (fun W (hW:PAt W p v E s)=>reserved_any (pn E s).text W (hW.txt (.inl hk)).1 (by have:=(hW.txt (.inl hk)).2;omega) hW.mx)
 rw [hkp] at HRS
 have h40:isS E [40] s = false:=by rw [← pn_isS h.c0,hk];rfl
 rw [run,if_neg (by rw [ht,hk];decide),if_neg (by rw [ht,hk];decide),if_neg (by rw [h40];decide),if_neg (by rw [hsT,hcl];simp),if_pos ⟨by rw [ht];exact hk,by rw [ht];exact hkp⟩,ht,hsT] at hr
 cases hr
 clear hf h ht hsT hcl hkp h40
 generalize pn E s = t at *
 have HK:=Lib.hid hk
 clear hk
 go_enter Tryz.func234,Tryz.ntmps234
 go_wp2_with fail
 have HS0:=Lib.hid (HS.out.alloc (ndO zero (.slice none 0 0)))
 clear HS
 refine (HN.out _ HS0.out.P).mono ?_;rintro e w1 ⟨rfl,hb1⟩
 have HS1:=Lib.hid ((HS0.out.call (HS0.out.P.below hb1) (Turned.of_below hb1)).alloc (tnO t))
 clear hb1 HN HS0
 go_upto_region 2 with fail
 change Code.wp _ _ _ _ (w1.alloc (tnO t))
 generalize w1.alloc (tnO t) = w2 at *
 generalize w1.heap.size = bt at *
 obtain ⟨t0,t1,t2,t3,tf0,tf1,tf2,tf3,tl⟩:=HS1.out.c4 0 rfl
 go_upto_region 4 with fail
 have HS3:=Lib.hid (HS1.out.alloc (ksO 0 t.text none 0 0 t.at'))
 change Code.wp _ _ _ _ (w2.alloc (ksO 0 t.text none 0 0 t.at'))
 generalize w2.alloc (ksO 0 t.text none 0 0 t.at') = w3 at *
 generalize w2.heap.size = bx at *
 generalize W.heap.size = br at *
 clear t0 t1 t2 t3 tf0 tf1 tf2 tf3 tl
 clear HS1
 obtain ⟨t0,t1,t2,t3,tf0,tf1,tf2,tf3,tl⟩:=HS3.out.c4 1 rfl
 obtain ⟨x0,x1,x2,x3,x4,xf0,xf1,xf2,xf3,xf4,xl⟩:=HS3.out.c5 0 rfl
 obtain ⟨kd,u,nm,a⟩:=t
 obtain rfl:kd = 1:=HK.out
 go_wp2_with fail
 refine (HCL.out _ HS3.out.P).mono ?_;rintro e w5 ⟨rfl,hb5⟩
 have HS5:=Lib.hid (HS3.out.call (HS3.out.P.below hb5) (Turned.of_below hb5))
 clear hb5 HS3 HCL
 clear t0 t1 t2 t3 tf0 tf1 tf2 tf3 tl
 clear x0 x1 x2 x3 x4 xf0 xf1 xf2 xf3 xf4 xl
 obtain ⟨t0,t1,t2,t3,tf0,tf1,tf2,tf3,tl⟩:=HS5.out.c4 1 rfl
 obtain ⟨x0,x1,x2,x3,x4,xf0,xf1,xf2,xf3,xf4,xl⟩:=HS5.out.c5 0 rfl
 go_wp2_with fail
 refine (HRS.out _ HS5.out.P).mono ?_;rintro e w6 ⟨rfl,rfl⟩
 go_upto_region 18 with fail
 have HS4:=Lib.hid (HS5.out.setL 0 rfl 0 (.int .i64 14))
 generalize (w6.setCell _ _) = w4 at HS4 ⊢
 clear HS5
 clear t0 t1 t2 t3 tf0 tf1 tf2 tf3 tl
 clear x0 x1 x2 x3 x4 xf0 xf1 xf2 xf3 xf4 xl
 have hcs:=HS4.out.P.cells
 have q1:=hcs.c1
 have f1:=hcs.f1
 have hpl:=HS4.out.P.lt
 have hlen:=HS4.out.P.len
 clear hcs
 obtain ⟨y0,y1,y2,y3,y4,yf0,yf1,yf2,yf3,yf4,yl⟩:=HS4.out.c5 0 rfl
 obtain ⟨r0,r1,r2,r3,r4,rf0,rf1,rf2,rf3,rf4,rl⟩:=HS4.out.c5 2 rfl
 obtain ⟨yn,ym⟩:=HS4.out.ne 0 rfl
 obtain ⟨rn,rm⟩:=HS4.out.ne 2 rfl
 go_wp2_with fail
 have HSG:=Lib.hid ((HS4.out.inc hi).set5 2 rfl (.int .i64 14) (.string ⟨u.toArray⟩) (.float .f64 0) (.slice none 0 0) (.int .i64 a))
 clear HS4
 generalize ((((((w4.setCell _ _).setCell _ _).setCell _ _).setCell _ _).setCell _ _).setCell _ _) = wf at HSG ⊢
 obtain ⟨z0,z1,z2,z3,z4,zf0,zf1,zf2,zf3,zf4,zl⟩:=HSG.out.c5 2 rfl
 refine bodyPost_ret (v:=.agg #[.int .i64 14,.string ⟨u.toArray⟩,.float .f64 0,.slice none 0 0,.int .i64 a]) (by simp [results,Tryz.results234,go_sem,z0,z1,z2,z3,z4]) rfl ?_
 exact .ok (.inl rfl) (Nat.lt_succ_self _) (HSG.out.leaf (.mk 14 u 0 [] a) rfl)
theorem called_pn {E:PE} {s:PS} (hc:s.code = 0) (h:called E s = true):(pn E (inc s)).kind = 4:=by
 unfold called at h
 unfold pn
 show (match E.ts[s.i + 1]? with | some t=>tnOf t | none=>_).kind = 4
 cases ht:E.ts[s.i + 1]? with
 | none=>rw [ht] at h;exact absurd h (by decide)
 | some t =>
  rw [ht] at h
  simp only [Bool.and_eq_true,beq_iff_eq] at h
  exact h.1
theorem args_of {E:PE} {f:Nat} {t:PS} {ks:List Nd} {sf:PS} (hc:t.code = 0) (h:run E f (.args []) t = some (ks,sf)) (hm:16 * par.ms E t + 10 ≤ f) :
  ∃ kf s9,(if isS E [41] t then some ([],inc t) else argsP E f [] t) = some (kf,s9) ∧ s9.code = (must E [41] sf).code ∧ s9.bad = (must E [41] sf).bad ∧ (s9.code = 0 → kf = ks ∧ s9 = must E [41] sf):=by
 by_cases h41:isS E [41] t = true
 ·rw [if_pos h41]
  obtain ⟨k,rfl⟩:∃ k,f = k + 1:=⟨f - 1,by omega⟩
  rw [run,if_pos (by rw [h41];rfl)] at h
  cases h
  have hsT:=(tk_kind (E:=E) (s:=t) (by rw [(isS_kind h41).1];decide)).2.2
  have:must E [41] (sT E t) = inc t:=by
   rw [must_sT2]
   unfold must
   rw [if_pos h41,hsT]
  rw [this]
  exact ⟨_,_,rfl,rfl,rfl,fun _=>⟨rfl,rfl⟩⟩
 ·rw [if_neg h41]
  exact args_P f [] t ks sf h (by simpa using h41) hm
set_option maxHeartbeats 4000000 in
theorem prim_call {p:Nat} {v:Value} {E:PE} {f:Nat} (J:∀ k,k ≤ f → QJobs p v E k) (s:PS) (x:Nd) (s2:PS) (W:World) (hf:16 * ms E s + rank .primary ≤ f + 1) (hr:run E (f + 1) .primary s = some ([x],s2)) (h:PAt W p v E s) (hk:(pn E s).kind = 1) (hcl:called E s = true):Calls Tryz.prog 234 #[PP p] W (NodeR p v E s.i s2 x W):=by
 have HS:=Lib.hid (SW.start h)
 have HN:=Lib.hid (fun W h=>now_any p v E s W h)
 obtain ⟨ht,hsT⟩:=more_at h.c0 hk (by decide)
 have hi1:=(h.more (by rw [hk];decide)).2.1
 have hi:s.i + 2 < (pts E).length:=((h.inc hi1).more (by rw [called_pn h.c0 hcl];decide)).2.1
 have HCL:=Lib.hid (fun W h=>called_any p v E s W h)
 rw [hcl] at HCL
 have h40:isS E [40] s = false:=by rw [← pn_isS h.c0,hk];rfl
 have h2:two E s = ⟨s.i + 2,s.code,s.bad,s.deep⟩:=by unfold two;rw [hsT]
 rw [run,if_neg (by rw [ht,hk];decide),if_neg (by rw [ht,hk];decide),if_neg (by rw [h40];decide),if_pos ⟨by rw [ht];exact hk,by rw [hsT];exact hcl⟩,ht,h2] at hr
 simp only [rank] at hf
 have hlt:(pts E).length ≤ 100000:=h.len
 have htl:E.ts.length ≤ 100000:=by
  have:=pts_len E
  split at this <;> omega
 have hm2:ms E ⟨s.i + 2,s.code,s.bad,s.deep⟩ + 1 ≤ ms E s:=by
  have e:ms E ⟨s.i + 2,s.code,s.bad,s.deep⟩ = E.ts.length - (s.i + 2) + 1:=ms_ok (s:=⟨s.i + 2,s.code,s.bad,s.deep⟩) h.c0
  rw [e,ms_ok h.c0]
  have:=pts_len E
  split at this <;> omega
 cases hra:run E f (.args []) ⟨s.i + 2,s.code,s.bad,s.deep⟩ with
 | none=>rw [hra] at hr;cases hr
 | some r =>
 obtain ⟨ks,sf⟩:=r
 rw [hra] at hr
 simp only at hr
 cases hr
 obtain ⟨kf,s9,h9,h9c,h9b,h9e⟩:=args_of (t:=⟨s.i + 2,s.code,s.bad,s.deep⟩) h.c0 hra (by omega)
 have HAR:=Lib.hid (fun W hW=>args_any J ⟨s.i + 2,s.code,s.bad,s.deep⟩ kf s9 W (by omega) h9 htl hW)
 have H9:Hid (s9.code = (must E [41] sf).code ∧ s9.bad = (must E [41] sf).bad ∧ (s9.code = 0 → kf = ks ∧ s9 = must E [41] sf)):=⟨h9c,h9b,h9e⟩
 clear hf h ht hsT hcl h40 J hra h9 h9c h9b h9e h2 htl hm2 hi1
 generalize pn E s = t at *
 generalize must E [41] sf = s2 at *
 have HK:=Lib.hid hk
 clear hk
 go_enter Tryz.func234,Tryz.ntmps234
 go_wp2_with fail
 have HS0:=Lib.hid (HS.out.alloc (ndO zero (.slice none 0 0)))
 clear HS
 refine (HN.out _ HS0.out.P).mono ?_;rintro e w1 ⟨rfl,hb1⟩
 have HS1:=Lib.hid ((HS0.out.call (HS0.out.P.below hb1) (Turned.of_below hb1)).alloc (tnO t))
 clear hb1 HN HS0
 go_upto_region 2 with fail
 change Code.wp _ _ _ _ (w1.alloc (tnO t))
 generalize w1.alloc (tnO t) = w2 at *
 generalize w1.heap.size = bt at *
 obtain ⟨t0,t1,t2,t3,tf0,tf1,tf2,tf3,tl⟩:=HS1.out.c4 0 rfl
 go_upto_region 4 with fail
 have HS3:=Lib.hid (HS1.out.alloc (ksO 0 t.text none 0 0 t.at'))
 change Code.wp _ _ _ _ (w2.alloc (ksO 0 t.text none 0 0 t.at'))
 generalize w2.alloc (ksO 0 t.text none 0 0 t.at') = w3 at *
 generalize w2.heap.size = bx at *
 generalize W.heap.size = br at *
 clear t0 t1 t2 t3 tf0 tf1 tf2 tf3 tl
 clear HS1
 obtain ⟨t0,t1,t2,t3,tf0,tf1,tf2,tf3,tl⟩:=HS3.out.c4 1 rfl
 obtain ⟨x0,x1,x2,x3,x4,xf0,xf1,xf2,xf3,xf4,xl⟩:=HS3.out.c5 0 rfl
 obtain ⟨kd,u,nm,a⟩:=t
 obtain rfl:kd = 1:=HK.out
 go_wp2_with fail
 refine (HCL.out _ HS3.out.P).mono ?_;rintro e w5 ⟨rfl,hb5⟩
 have HS5:=Lib.hid (HS3.out.call (HS3.out.P.below hb5) (Turned.of_below hb5))
 clear hb5 HS3 HCL
 clear t0 t1 t2 t3 tf0 tf1 tf2 tf3 tl
 clear x0 x1 x2 x3 x4 xf0 xf1 xf2 xf3 xf4 xl
 have hcs:=HS5.out.P.cells
 have q1:=hcs.c1
 have f1:=hcs.f1
 have hpl:=HS5.out.P.lt
 clear hcs
 go_upto_region 10 with fail
 have HS6:=Lib.hid (HS5.out.inc2 hi)
 generalize (w5.setCell _ _) = w6 at HS6 ⊢
 clear HS5 q1 f1 hpl
 go_wp2_with fail
 refine (HAR.out _ HS6.out.P).mono ?_
 rintro e w7 hnr
 rcases hnr with ⟨hc9,hi9,a7,n7,S7,rfl,hk,hS,hP,hT⟩ | ⟨hc,rfl,hT⟩
 rotate_left
 ·go_wp2_with fail
  obtain ⟨e1,e2,-⟩:=H9.out
  exact ⟨rfl,.bad (by rw [← e1];exact hc) ((Thr.from ⟨rfl,hT⟩ HS6.out.T).of e1.symm e2.symm)⟩
 have HS7:=Lib.hid (HS6.out.callT hk hS hP hT)
 obtain ⟨rfl,rfl⟩:=H9.out.2.2 hc9
 have HI:=Lib.hid hi9
 clear hk hS hP hT HS6 HAR hc9 hi9 H9
 obtain ⟨x0,x1,x2,x3,x4,xf0,xf1,xf2,xf3,xf4,xl⟩:=HS7.out.c5 0 rfl
 go_upto_region 11 with fail
 have HS8:=Lib.hid ((HS7.out.setL 0 rfl 0 (.int .i64 19)).setL 0 rfl 3 (.slice a7 kf.length n7))
 generalize ((w7.setCell _ _).setCell _ _) = w8 at HS8 ⊢
 clear HS7
 clear x0 x1 x2 x3 x4 xf0 xf1 xf2 xf3 xf4 xl
 obtain ⟨y0,y1,y2,y3,y4,yf0,yf1,yf2,yf3,yf4,yl⟩:=HS8.out.c5 0 rfl
 obtain ⟨r0,r1,r2,r3,r4,rf0,rf1,rf2,rf3,rf4,rl⟩:=HS8.out.c5 2 rfl
 go_wp2_with fail
 have HSG:=Lib.hid (HS8.out.set5 2 rfl (.int .i64 19) (.string ⟨u.toArray⟩) (.float .f64 0) (.slice a7 kf.length n7) (.int .i64 a))
 clear HS8
 generalize (((((w8.setCell _ _).setCell _ _).setCell _ _).setCell _ _).setCell _ _) = wf at HSG ⊢
 obtain ⟨z0,z1,z2,z3,z4,zf0,zf1,zf2,zf3,zf4,zl⟩:=HSG.out.c5 2 rfl
 refine bodyPost_ret (v:=.agg #[.int .i64 19,.string ⟨u.toArray⟩,.float .f64 0,.slice a7 kf.length n7,.int .i64 a]) (by simp [results,Tryz.results234,go_sem,z0,z1,z2,z3,z4]) rfl ?_
 exact .ok (.inl rfl) (by have h:s.i + 2 < s9.i:=HI.out;omega) (HSG.out.node (List.mem_cons_self ..) (.mk 19 u 0 kf a) rfl)
set_option maxHeartbeats 4000000 in
theorem prim_par {p:Nat} {v:Value} {E:PE} {f:Nat} (J:∀ k,k ≤ f → QJobs p v E k) (s:PS) (x:Nd) (s2:PS) (W:World) (hf:16 * ms E s + rank .primary ≤ f + 1) (hr:run E (f + 1) .primary s = some ([x],s2)) (h:PAt W p v E s) (h40:isS E [40] s = true):Calls Tryz.prog 234 #[PP p] W (NodeR p v E s.i s2 x W):=by
 have HS:=Lib.hid (SW.start h)
 have HN:=Lib.hid (fun W h=>now_any p v E s W h)
 obtain ⟨hi,hsT,ht⟩:=h.moreS h40
 have hk:(pn E s).kind = 4:=by rw [← ht];exact (isS_kind h40).1
 have HSG4:=Lib.hid (fun W hW=>sign_any p v E s [40] true W hW h40)
 rw [run,if_neg (by rw [ht,hk];decide),if_neg (by rw [ht,hk];decide),if_pos h40,hsT] at hr
 simp only [rank] at hf
 have hmi:=ms_inc (E:=E) (s:=s) (by rw [ht,hk];decide)
 rw [hsT] at hmi
 cases hra:run E f .inner (inc s) with
 | none=>rw [hra] at hr;cases hr
 | some r =>
 obtain ⟨ys,s3⟩:=r
 rw [hra] at hr
 match ys,hr with
 | [],hr=>cases hr
 | _ :: _ :: _,hr=>cases hr
 | [y],hr =>
 simp only at hr
 cases hr
 obtain ⟨k,rfl⟩:∃ k,f = k + 1:=⟨f - 1,by omega⟩
 have HJ:=Lib.hid (fun W hW=>inJ (J k (by omega)) (inc s) x s3 W (by simp only [rank];omega) hra hW)
 clear hf h ht hsT J hra hmi h40
 generalize pn E s = t at *
 have HK:=Lib.hid hk
 clear hk
 go_enter Tryz.func234,Tryz.ntmps234
 go_wp2_with fail
 have HS0:=Lib.hid (HS.out.alloc (ndO zero (.slice none 0 0)))
 clear HS
 refine (HN.out _ HS0.out.P).mono ?_;rintro e w1 ⟨rfl,hb1⟩
 have HS1:=Lib.hid ((HS0.out.call (HS0.out.P.below hb1) (Turned.of_below hb1)).alloc (tnO t))
 clear hb1 HN HS0
 go_upto_region 2 with fail
 change Code.wp _ _ _ _ (w1.alloc (tnO t))
 generalize w1.alloc (tnO t) = w2 at *
 generalize w1.heap.size = bt at *
 obtain ⟨t0,t1,t2,t3,tf0,tf1,tf2,tf3,tl⟩:=HS1.out.c4 0 rfl
 go_upto_region 4 with fail
 have HS3:=Lib.hid (HS1.out.alloc (ksO 0 t.text none 0 0 t.at'))
 change Code.wp _ _ _ _ (w2.alloc (ksO 0 t.text none 0 0 t.at'))
 generalize w2.alloc (ksO 0 t.text none 0 0 t.at') = w3 at *
 generalize w2.heap.size = bx at *
 generalize W.heap.size = br at *
 clear t0 t1 t2 t3 tf0 tf1 tf2 tf3 tl
 clear HS1
 obtain ⟨t0,t1,t2,t3,tf0,tf1,tf2,tf3,tl⟩:=HS3.out.c4 1 rfl
 obtain ⟨x0,x1,x2,x3,x4,xf0,xf1,xf2,xf3,xf4,xl⟩:=HS3.out.c5 0 rfl
 obtain ⟨kd,u,nm,a⟩:=t
 obtain rfl:kd = 4:=HK.out
 go_wp2_with fail
 refine (HSG4.out _ HS3.out.P).mono ?_;rintro e w5 ⟨rfl,hP,hT⟩
 have HS5:=Lib.hid (HS3.out.call hP hT)
 clear hP hT HSG4 HS3
 clear t0 t1 t2 t3 tf0 tf1 tf2 tf3 tl
 clear x0 x1 x2 x3 x4 xf0 xf1 xf2 xf3 xf4 xl
 go_wp2_with fail
 refine (HJ.out _ HS5.out.P).mono ?_
 rintro e w6 hnr
 rcases hnr with ⟨tw6,htw6,hiw6,aw6,nw6,Sw6,rfl,hk,hS,hP,hT⟩ | ⟨hc,rfl,hT⟩
 rotate_left
 ·go_wp2_with fail
  exact ⟨rfl,.thr hc ⟨rfl,hT⟩ (HS5.out).T (stk_must E [41] s3)⟩
 have HS6:=Lib.hid (HS5.out.callT hk hS hP hT)
 have HAw6:=Lib.hid (And.intro htw6 hiw6)
 clear hk hS hP hT htw6 hiw6
 have HMS:=Lib.hid (fun W hW=>must_any p v E tw6 [41] W hW)
 rw [← Al.must HAw6.out.1] at HMS
 clear HJ HS5
 obtain ⟨x0,x1,x2,x3,x4,xf0,xf1,xf2,xf3,xf4,xl⟩:=HS6.out.c5 0 rfl
 go_upto_region 16 with fail
 have HS7:=Lib.hid (HS6.out.set5 0 rfl (.int .i64 x.kind) (.string ⟨x.text.toArray⟩) (.float .f64 x.num) (.slice aw6 x.kids.length nw6) (.int .i64 x.at'))
 generalize (((((w6.setCell _ _).setCell _ _).setCell _ _).setCell _ _).setCell _ _) = w7 at HS7 ⊢
 clear HS6
 clear x0 x1 x2 x3 x4 xf0 xf1 xf2 xf3 xf4 xl
 go_wp2_with fail
 refine (HMS.out _ HS7.out.P).mono ?_
 rintro e w8 ⟨hok,hbad⟩
 rcases Classical.em ((must E [41] s3).code = 0) with hc | hc
 rotate_left
 ·obtain ⟨rfl,hT⟩:=hbad hc
  go_wp2_with fail
  exact ⟨rfl,.thr hc ⟨rfl,hT⟩ (HS7.out).T (Stk.refl _)⟩
 obtain ⟨rfl,hP,hT⟩:=hok hc
 have HS8:=Lib.hid (HS7.out.call hP hT)
 clear hP hT hok hbad hc
 clear HMS HS7
 obtain ⟨y0,y1,y2,y3,y4,yf0,yf1,yf2,yf3,yf4,yl⟩:=HS8.out.c5 0 rfl
 obtain ⟨r0,r1,r2,r3,r4,rf0,rf1,rf2,rf3,rf4,rl⟩:=HS8.out.c5 2 rfl
 go_wp2_with fail
 have HSG:=Lib.hid (HS8.out.set5 2 rfl (.int .i64 x.kind) (.string ⟨x.text.toArray⟩) (.float .f64 x.num) (.slice aw6 x.kids.length nw6) (.int .i64 x.at'))
 clear HS8
 generalize (((((w8.setCell _ _).setCell _ _).setCell _ _).setCell _ _).setCell _ _) = wf at HSG ⊢
 obtain ⟨z0,z1,z2,z3,z4,zf0,zf1,zf2,zf3,zf4,zl⟩:=HSG.out.c5 2 rfl
 refine bodyPost_ret (v:=ndV x (.slice aw6 x.kids.length nw6)) (by simp [results,Tryz.results234,go_sem,z0,z1,z2,z3,z4]) rfl ?_
 exact .ok (.inl rfl) (by
  have h1:s.i + 1 < tw6.i:=HAw6.out.2
  have h2:tw6.i ≤ (must E [41] s3).i:=by rw [Al.must HAw6.out.1];unfold must;split;exact Nat.le_succ_of_le (Nat.le_of_eq (sT_i E tw6).symm);rw [wrong_sT2,wrong_i];exact Nat.le_refl _
  omega) (HSG.out.node (List.mem_cons_self ..) x rfl)
set_option maxHeartbeats 4000000 in
theorem prim_bad {p:Nat} {v:Value} {E:PE} {f:Nat} (s:PS) (x:Nd) (s2:PS) (W:World) (hf:16 * ms E s + rank .primary ≤ f + 1) (hr:run E (f + 1) .primary s = some ([x],s2)) (h:PAt W p v E s) (hk2:(pn E s).kind ≠ 2) (hk3:(pn E s).kind ≠ 3) (h40:isS E [40] s = false) (hk1:(pn E s).kind = 1 → called E s = false ∧ kept (pn E s).text = true):Calls Tryz.prog 234 #[PP p] W (NodeR p v E s.i s2 x W):=by
 have HS:=Lib.hid (SW.start h)
 have HN:=Lib.hid (fun W h=>now_any p v E s W h)
 have hkk:=(pn_kt (E:=E) h.c0).1
 have hkt:=(pn_kt (E:=E) h.c0).2
 have HSG4:=Lib.hid (fun W hW=>sign_any p v E s [40] false W hW h40)
 have HBD:=Lib.hid (fun W hW=>bad_any p v E s W hW)
 have HCL:=Lib.hid (fun W h=>called_any p v E s W h)
 have HRS:=Lib.hid (fun W (hW:PAt W p v E s) (hk:(pn E s).kind = 1)=>reserved_any (pn E s).text W (hW.txt (.inl hk)).1 (by have:=(hW.txt (.inl hk)).2;omega) hW.mx)
 rw [run,if_neg (by rw [← hkk];exact hk2),if_neg (by rw [← hkk];exact hk3),if_neg (by rw [h40];decide),if_neg (fun h=>by rw [← hkk,called_sT2] at h;have:=(hk1 h.1).1;rw [this] at h;exact absurd h.2 (by decide)),if_neg (fun h=>by rw [← hkk] at h;have:=(hk1 h.1).2;rw [hkt] at this;rw [this] at h;exact absurd h.2 (by decide))] at hr
 cases hr
 rw [wrong_sT2]
 have HW:=Lib.hid (wrong_code E s)
 clear hf h h40 hkk hkt
 generalize called E s = cl at *
 generalize pn E s = t at *
 have HK:=Lib.hid hk1
 have HK23:=Lib.hid (And.intro hk2 hk3)
 clear hk1 hk2 hk3
 go_enter Tryz.func234,Tryz.ntmps234
 go_wp2_with fail
 have HS0:=Lib.hid (HS.out.alloc (ndO zero (.slice none 0 0)))
 clear HS
 refine (HN.out _ HS0.out.P).mono ?_;rintro e w1 ⟨rfl,hb1⟩
 have HS1:=Lib.hid ((HS0.out.call (HS0.out.P.below hb1) (Turned.of_below hb1)).alloc (tnO t))
 clear hb1 HN HS0
 go_upto_region 2 with fail
 change Code.wp _ _ _ _ (w1.alloc (tnO t))
 generalize w1.alloc (tnO t) = w2 at *
 generalize w1.heap.size = bt at *
 obtain ⟨t0,t1,t2,t3,tf0,tf1,tf2,tf3,tl⟩:=HS1.out.c4 0 rfl
 go_upto_region 4 with fail
 have HS3:=Lib.hid (HS1.out.alloc (ksO 0 t.text none 0 0 t.at'))
 change Code.wp _ _ _ _ (w2.alloc (ksO 0 t.text none 0 0 t.at'))
 generalize w2.alloc (ksO 0 t.text none 0 0 t.at') = w3 at *
 generalize w2.heap.size = bx at *
 generalize W.heap.size = br at *
 clear t0 t1 t2 t3 tf0 tf1 tf2 tf3 tl
 clear HS1
 obtain ⟨t0,t1,t2,t3,tf0,tf1,tf2,tf3,tl⟩:=HS3.out.c4 1 rfl
 obtain ⟨x0,x1,x2,x3,x4,xf0,xf1,xf2,xf3,xf4,xl⟩:=HS3.out.c5 0 rfl
 obtain ⟨kd,u,nm,a⟩:=t
 simp only at HK HK23 HRS
 have e2:(kd == 2) = false:=beq_eq_false_iff_ne.2 HK23.out.1
 have e3:(kd == 3) = false:=beq_eq_false_iff_ne.2 HK23.out.2
 by_cases hk1:kd = 1
 ·obtain ⟨rfl,hkp⟩:=HK.out hk1
  have HR2:=Lib.hid (fun W hW=>HRS.out W hW hk1)
  rw [hkp] at HR2
  have e1:(kd == 1) = true:=by rw [hk1];rfl
  clear HK HRS hkp hk1
  go_wp2_with fail
  refine (HCL.out _ HS3.out.P).mono ?_;rintro e w5 ⟨rfl,hb5⟩
  have HS5:=Lib.hid (HS3.out.call (HS3.out.P.below hb5) (Turned.of_below hb5))
  clear hb5 HS3 HCL
  clear t0 t1 t2 t3 tf0 tf1 tf2 tf3 tl
  clear x0 x1 x2 x3 x4 xf0 xf1 xf2 xf3 xf4 xl
  obtain ⟨t0,t1,t2,t3,tf0,tf1,tf2,tf3,tl⟩:=HS5.out.c4 1 rfl
  go_wp2_with fail
  refine (HR2.out _ HS5.out.P).mono ?_;rintro e w6 ⟨rfl,rfl⟩
  go_wp2_with fail
  refine (HSG4.out _ HS5.out.P).mono ?_;rintro e w7 ⟨rfl,hP,hT⟩
  have HS7:=Lib.hid (HS5.out.call hP hT)
  clear hP hT HSG4 HS5
  go_wp2_with fail
  refine (HBD.out _ HS7.out.P).mono ?_;rintro e w8 ⟨rfl,hT⟩
  exact ⟨rfl,.thr HW.out ⟨rfl,hT⟩ HS7.out.T (Stk.refl _)⟩
 ·have e1:(kd == 1) = false:=beq_eq_false_iff_ne.2 hk1
  clear HK HRS HCL hk1
  go_wp2_with fail
  refine (HSG4.out _ HS3.out.P).mono ?_;rintro e w7 ⟨rfl,hP,hT⟩
  have HS7:=Lib.hid (HS3.out.call hP hT)
  clear hP hT HSG4 HS3
  go_wp2_with fail
  refine (HBD.out _ HS7.out.P).mono ?_;rintro e w8 ⟨rfl,hT⟩
  exact ⟨rfl,.thr HW.out ⟨rfl,hT⟩ HS7.out.T (Stk.refl _)⟩
theorem primJ {p:Nat} {v:Value} {E:PE} {f:Nat} (J:∀ k,k ≤ f → QJobs p v E k) (s:PS) (x:Nd) (s2:PS) (W:World) (hf:16 * ms E s + rank .primary ≤ f + 1) (hr:run E (f + 1) .primary s = some ([x],s2)) (h:PAt W p v E s):Calls Tryz.prog 234 #[PP p] W (NodeR p v E s.i s2 x W):=by
 by_cases k2:(pn E s).kind = 2
 ·exact prim_num s x s2 W hf hr h k2
 by_cases k3:(pn E s).kind = 3
 ·exact prim_text s x s2 W hf hr h k3
 cases h40:isS E [40] s with
 | true=>exact prim_par J s x s2 W hf hr h h40
 | false =>
  by_cases k1:(pn E s).kind = 1
  ·cases hcl:called E s with
   | true=>exact prim_call J s x s2 W hf hr h k1 hcl
   | false =>
    cases hkp:kept (pn E s).text with
    | false=>exact prim_name s x s2 W hf hr h k1 hcl hkp
    | true=>exact prim_bad s x s2 W hf hr h k2 k3 h40 (fun _=>⟨hcl,hkp⟩)
  ·exact prim_bad s x s2 W hf hr h k2 k3 h40 (fun h=>absurd h k1)
end Go.Proofs.YtmfpmandkhiknaaGreatDoor.qar
