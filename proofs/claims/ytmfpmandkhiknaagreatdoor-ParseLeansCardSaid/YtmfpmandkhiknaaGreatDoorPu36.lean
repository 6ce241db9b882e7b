/-
  Proved: a row of names with operators between is read as a tree that leans to the left, tighter ones first (plain). Conditions: as each theorem says. No program is in sight.
  Proved: the document's model of the parser reads a row of names with operators between as a tree that leans to the left, tighter ones first (plain). Conditions: as each theorem says. No program is in sight.
  Proved: maps with keys that are texts: what they hold, read and written (plain). Conditions: as each theorem says. No program is in sight.
-/
import Derived.Test.YtmfpmandkhiknaaGreatDoorPu30
import Derived.WideMake
import Derived.MapKept
import Derived.Test.YtmfpmandkhiknaaGreatDoorPu3
set_option linter.unusedVariables false
set_option linter.unusedSimpArgs false
namespace Go.Proofs.YtmfpmandkhiknaaGreatDoor.qar
open par lex
open many (envOf st0)
open flt (isD)
set_option maxRecDepth 100000
def sg:Nat → UInt8
 | 0=>38
 | 1=>43
 | 2=>45
 | 3=>42
 | 4=>47
 | _=>37
def lv:Nat → Nat
 | 0=>1
 | 1=>2
 | 2=>2
 | _=>3
def decL (n:Nat):List UInt8:=if n < 10 then [UInt8.ofNat (48 + n)] else [UInt8.ofNat (48 + n / 10),UInt8.ofNat (48 + n % 10)]
def tailT:List Nat → Nat → List UInt8
 | [],_ => [59]
 | o :: os,i=>32 :: sg o :: 32 :: 118 :: (decL (i + 1) ++ tailT os (i + 1))
def tokT:List Nat → Nat → Nat → List Tk
 | [],_,p => [⟨4,[59],0,p⟩,⟨0,[],0,p + 1⟩]
 | o :: os,i,p=>⟨4,[sg o],0,p + 1⟩ :: ⟨1,118 :: decL (i + 1),0,p + 3⟩ :: tokT os (i + 1) (p + 4 + (decL (i + 1)).length)
def lnsT (os:List Nat):List UInt8:=100 :: 111 :: 32 :: 118 :: (decL 0 ++ tailT os 0)
theorem decL_all:∀ n,n < 100 → (decL n).all isD = true:=by decide +kernel
theorem decL_len:∀ n,n < 100 → (decL n).length ≤ 2:=by decide +kernel
theorem run_app {p:UInt8 → Bool}:∀ (a r:List UInt8),a.all p = true → (r = [] ∨ p (r.getD 0 0) = false) → runB p (a ++ r) = a.length
 | [],r,_,h=>by
  cases r with
  | nil=>rfl
  | cons c r =>
   have:p c = false:=h.resolve_left (by simp)
   simp [runB,this]
 | b :: a,r,ha,h=>by
  rw [List.all_cons,Bool.and_eq_true] at ha
  have:=run_app a r ha.2 h
  unfold runB at this ⊢
  rw [List.cons_append,List.takeWhile_cons,ha.1]
  simp only [↓reduceIte,List.length_cons,this]
theorem sg_is (o:Nat):letB (sg o) = false ∧ isD (sg o) = false ∧ sg o ≠ 34 ∧ sg o ≠ 61 ∧ signB (sg o) = true ∧ blankB (sg o) = false ∧ sg o ≠ 35:=by
 unfold sg
 split <;> decide
theorem tok_sign (o:Nat) (r:List UInt8):tok (sg o :: r) = .ok (4,[sg o],0,1):=by
 obtain ⟨h1,h2,h3,h4,h5,-⟩:=sg_is o
 unfold tok
 have e:(sg o :: r).getD 0 0 = sg o:=rfl
 rw [e,if_neg (by rw [h1];decide),if_neg (by rw [h2];decide),if_neg h3,if_neg (fun h=>h4 h.1),if_pos h5]
theorem tok_name (d r:List UInt8) (hd:d.all isD = true) (hl:d.length ≤ 31) (hr:r = [] ∨ wordB (r.getD 0 0) = false):tok (118 :: (d ++ r)) = .ok (1,118 :: d,0,d.length + 1):=by
 have h1:runB wordB (118 :: (d ++ r)) = d.length + 1:=by
  have:=run_app (p:=wordB) (118 :: d) r (by
   rw [List.all_cons,Bool.and_eq_true]
   refine ⟨by decide,?_⟩
   rw [List.all_eq_true] at hd ⊢
   intro c hc
   unfold wordB
   rw [hd c hc,Bool.or_true]) hr
  simpa using this
 unfold tok
 have e:(118 :: (d ++ r)).getD 0 0 = (118:UInt8):=rfl
 rw [e,if_pos (by decide),h1,if_neg (by omega)]
 simp
theorem tail_head (os:List Nat) (i:Nat):tailT os i = [] ∨ wordB ((tailT os i).getD 0 0) = false:=by
 cases os with
 | nil=>exact .inr (by show wordB 59 = false;decide)
 | cons o os=>exact .inr (by show wordB 32 = false;decide)
theorem scan_step {f:Nat} {t:List UInt8} {a:Nat} {k:Int} {u:List UInt8} {x n:Nat} (h0:t ≠ []) (h:tok t = .ok (k,u,x,n)) :
  scanF (f + 1) t a = (⟨k,u,x,a⟩ :: (scanF f ((t.drop n).drop (skp false (t.drop n))) (a + n + skp false (t.drop n))).1,(scanF f ((t.drop n).drop (skp false (t.drop n))) (a + n + skp false (t.drop n))).2):=by
 rw [scanF,if_neg h0,h]
theorem scan_tail:∀ (os:List Nat) (i p f:Nat),i + os.length < 99 → (tailT os i).length < f →
  scanF f ((tailT os i).drop (skp false (tailT os i))) (p + skp false (tailT os i)) = (tokT os i p,0,0)
 | [],i,p,f,hi,hf=>by
  obtain ⟨g,rfl⟩:∃ g,f = g + 2:=⟨f - 2,by simp [tailT] at hf;omega⟩
  have e:skp false (tailT [] i) = 0:=by show skp false [59] = 0;decide
  rw [e]
  show scanF (g + 2) [59] p = _
  rw [scan_step (by simp) (show tok [59] = .ok (4,[59],0,1) by
   unfold tok
   rw [if_neg (by decide),if_neg (by decide),if_neg (by decide),if_neg (by decide),if_pos (by decide)]
   rfl)]
  show (_ :: (scanF (g + 1) [] (p + 1 + 0)).1,(scanF (g + 1) [] (p + 1 + 0)).2) = _
  rw [scanF,if_pos rfl]
  rfl
 | o :: os,i,p,f,hi,hf=>by
  have hd:=decL_all (i + 1) (by simp at hi;omega)
  have hdl:=decL_len (i + 1) (by simp at hi;omega)
  obtain ⟨-,-,-,-,-,hb,h35⟩:=sg_is o
  simp only [tailT,List.length_cons,List.length_append] at hf
  obtain ⟨g,rfl⟩:∃ g,f = g + 2:=⟨f - 2,by omega⟩
  have e:skp false (tailT (o :: os) i) = 1:=by
   rw [tailT,skp,if_pos (by decide),skp,if_neg (by rw [hb];decide),if_neg h35]
  rw [e,tailT,List.drop_succ_cons,List.drop_zero,scan_step (by simp) (tok_sign o _),List.drop_succ_cons,List.drop_zero]
  have e2:skp false (32 :: 118 :: (decL (i + 1) ++ tailT os (i + 1))) = 1:=by
   rw [skp,if_pos (by decide),skp,if_neg (by decide),if_neg (by decide)]
  rw [e2,List.drop_succ_cons,List.drop_zero,scan_step (by simp) (tok_name _ _ hd (by omega) (tail_head os (i + 1)))]
  have e3:(118 :: (decL (i + 1) ++ tailT os (i + 1))).drop ((decL (i + 1)).length + 1) = tailT os (i + 1):=by
   rw [List.drop_succ_cons,List.drop_left' rfl]
  rw [e3]
  have ih:=scan_tail os (i + 1) (p + 4 + (decL (i + 1)).length) g (by simp at hi;omega) (by omega)
  rw [show p + 1 + 1 + 1 + ((decL (i + 1)).length + 1) = p + 4 + (decL (i + 1)).length by omega,ih]
  rfl
theorem tail_len:∀ (os:List Nat) (i:Nat),i + os.length < 99 → (tailT os i).length ≤ 6 * os.length + 1
 | [],i,_=>by simp [tailT]
 | o :: os,i,h=>by
  have:=decL_len (i + 1) (by simp at h;omega)
  have:=tail_len os (i + 1) (by simp at h;omega)
  simp only [tailT,List.length_cons,List.length_append]
  omega
theorem scan_lns (os:List Nat) (h:os.length ≤ 30):scanL (lnsT os) = (⟨1,[100,111],0,0⟩ :: ⟨1,118 :: decL 0,0,3⟩ :: tokT os 0 5,0,0):=by
 have hl:=tail_len os 0 (by omega)
 have hlen:(lnsT os).length ≤ 1000:=by
  simp only [lnsT,List.length_cons,List.length_append]
  have:(decL 0).length = 1:=rfl
  omega
 unfold scanL
 rw [if_neg (by omega)]
 have e:skp false (lnsT os) = 0:=by
  rw [lnsT,skp,if_neg (by decide),if_neg (by decide)]
 rw [e,List.drop_zero]
 obtain ⟨g,hg⟩:∃ g,(lnsT os).length + 1 = g + 2 ∧ (tailT os 0).length < g:=⟨(lnsT os).length - 1,by simp only [lnsT,List.length_cons,List.length_append];omega,by simp only [lnsT,List.length_cons,List.length_append];omega⟩
 rw [hg.1]
 have t1:tok (lnsT os) = .ok (1,[100,111],0,2):=by
  have h1:runB wordB (lnsT os) = 2:=by
   have:=run_app (p:=wordB) [100,111] (32 :: 118 :: (decL 0 ++ tailT os 0)) (by decide) (.inr (by show wordB 32 = false;decide))
   exact this
  unfold tok
  have e:(lnsT os).getD 0 0 = (100:UInt8):=rfl
  rw [e,if_pos (by decide),h1,if_neg (by omega)]
  rfl
 rw [scan_step (by simp [lnsT]) t1]
 have e1:(lnsT os).drop 2 = 32 :: 118 :: (decL 0 ++ tailT os 0):=rfl
 have e2:skp false (32 :: 118 :: (decL 0 ++ tailT os 0)) = 1:=by
  rw [skp,if_pos (by decide),skp,if_neg (by decide),if_neg (by decide)]
 rw [e1,e2,List.drop_succ_cons,List.drop_zero,scan_step (by simp) (tok_name _ _ (decL_all 0 (by omega)) (by decide) (tail_head os 0))]
 have e3:(118 :: (decL 0 ++ tailT os 0)).drop ((decL 0).length + 1) = tailT os 0:=by
  rw [List.drop_succ_cons,List.drop_left' rfl]
 rw [e3]
 have:=scan_tail os 0 5 g (by omega) hg.2
 rw [show 0 + 2 + 1 + ((decL 0).length + 1) = 5 from rfl,this]
inductive Lns:List Nat → Nat → Nd → Prop where
 | leaf (n:Nat) (a:Int):Lns [] n (.mk 14 (118 :: decL n) 0 [] a)
 | node (o1:List Nat) (p:Nat) (o2:List Nat) (n:Nat) (x y:Nd) (a:Int) (hx:Lns o1 n x) (hy:Lns o2 (n + o1.length + 1) y) (h1:∀ o ∈ o1,lv p ≤ lv o) (h2:∀ o ∈ o2,lv p < lv o):Lns (o1 ++ p :: o2) n (.mk 18 [sg p] 0 [x,y] a)
def TlAt (E:PE) (i n:Nat) (os:List Nat):Prop:=∃ p,E.ts.drop i = tokT os n p
def OpAt (E:PE) (i n:Nat) (os:List Nat):Prop:=∃ q p,E.ts.drop i = ⟨1,118 :: decL n,0,q⟩ :: tokT os n p
theorem at_tk {E:PE} {s:PS} {t:Tk} {r:List Tk} (h:E.ts.drop s.i = t :: r) (hc:s.code = 0):tk E s = tnOf t ∧ sT E s = s:=by
 have ht:E.ts[s.i]? = some t:=by
  have:=congrArg (·[0]?) h
  simpa [List.getElem?_drop] using this
 have:=pT_ok hc ht
 exact ⟨congrArg Prod.fst this,congrArg Prod.snd this⟩
theorem drop_more {E:PE} {i:Nat} {t:Tk} {r:List Tk} (h:E.ts.drop i = t :: r):E.ts.drop (i + 1) = r:=by
 rw [← List.drop_drop,h];rfl
theorem TlAt.next {E:PE} {i n o:Nat} {os:List Nat} (h:TlAt E i n (o :: os)):OpAt E (i + 1) (n + 1) os:=by
 obtain ⟨p,h⟩:=h
 exact ⟨_,_,drop_more h⟩
theorem OpAt.tl {E:PE} {i n:Nat} {os:List Nat} (h:OpAt E i n os):TlAt E (i + 1) n os:=by
 obtain ⟨q,p,h⟩:=h
 exact ⟨p,drop_more h⟩
theorem TlAt.drop {E:PE}:∀ (c:Nat) (os:List Nat) (i n:Nat),TlAt E i n os → c ≤ os.length → TlAt E (i + 2 * c) (n + c) (os.drop c)
 | 0,os,i,n,h,_=>h
 | c + 1,[],i,n,h,hc=>by simp at hc
 | c + 1,o :: os,i,n,h,hc=>by
  have:=TlAt.drop c os _ _ h.next.tl (by simpa using hc)
  rw [show i + 2 * (c + 1) = i + 1 + 1 + 2 * c by omega,show n + (c + 1) = n + 1 + c by omega]
  exact this
theorem kept_v (d:List UInt8):kept (118 :: d) = false:=by
 unfold kept keptL
 simp
theorem isAny_op {E:PE} {s:PS} {n o:Nat} {os:List Nat} {l:Nat} (h:TlAt E s.i n (o :: os)) (hc:s.code = 0) (hl:l ≤ 3):isAny E l s = decide (lv o = l) ∧ tk E s = ⟨4,[sg o],0,(tk E s).at'⟩ ∧ sT E s = s:=by
 obtain ⟨p,h⟩:=h
 obtain ⟨h1,h2⟩:=at_tk h hc
 refine ⟨?_,by rw [h1];rfl,h2⟩
 unfold isAny isS
 rw [h1]
 have:∀ o,∀ l ∈ [0,1,2,3],((signsOf l).any fun g=>(4:Int) == 4 && [sg o] == g) = decide (lv o = l):=by
  intro o
  unfold sg lv
  split <;> split <;> first | decide | (exfalso;simp_all)
 exact this o l (by simp;omega)
theorem isAny_end {E:PE} {s:PS} {n:Nat} {l:Nat} (h:TlAt E s.i n []) (hc:s.code = 0) (hl:l ≤ 3):isAny E l s = false ∧ sT E s = s:=by
 obtain ⟨p,h⟩:=h
 obtain ⟨h1,h2⟩:=at_tk h hc
 refine ⟨?_,h2⟩
 unfold isAny isS
 rw [h1]
 rcases (show l = 0 ∨ l = 1 ∨ l = 2 ∨ l = 3 by omega) with rfl | rfl | rfl | rfl <;> rfl
theorem lv_pos (o:Nat):1 ≤ lv o ∧ lv o ≤ 3:=by unfold lv;split <;> omega
def BinR (E:PE) (l n:Nat) (os:List Nat) (s:PS) (ks:List Nd) (s2:PS):Prop:=
 ∃ x c,ks = [x] ∧ c ≤ os.length ∧ s2 = ⟨s.i + 1 + 2 * c,0,s.bad,s.deep⟩ ∧ Lns (os.take c) n x ∧ (∀ o ∈ os.take c,l ≤ lv o) ∧ ∀ o,os[c]? = some o → lv o < l
def BinLR (E:PE) (l n0:Nat) (pre os:List Nat) (s:PS) (ks:List Nd) (s2:PS):Prop:=
 ∃ y c,ks = [y] ∧ c ≤ os.length ∧ s2 = ⟨s.i + 2 * c,0,s.bad,s.deep⟩ ∧ Lns (pre ++ os.take c) n0 y ∧ (∀ o ∈ pre ++ os.take c,l ≤ lv o) ∧ ∀ o,os[c]? = some o → lv o < l
theorem st_eq {s:PS} (h:s.code = 0):s = ⟨s.i,0,s.bad,s.deep⟩:=by
 obtain ⟨i,c,b,d⟩:=s
 simp only at h
 subst h
 rfl
theorem unary_name {E:PE} {f:Nat} {s:PS} {n:Nat} {os:List Nat} {ks:List Nd} {s2:PS} (hc:s.code = 0) (h:OpAt E s.i n os) (hr:run E f .unary s = some (ks,s2)):∃ a,ks = [.mk 14 (118 :: decL n) 0 [] a] ∧ s2 = ⟨s.i + 1,0,s.bad,s.deep⟩:=by
 obtain ⟨q,p,hd⟩:=h
 obtain ⟨h1,h2⟩:=at_tk hd hc
 have hS:∀ g,isS E g s = false:=fun g=>by unfold isS;rw [h1];rfl
 have hcl:called E s = false:=by
  unfold called
  have hd2:=drop_more hd
  cases os with
  | nil =>
   have:E.ts[s.i + 1]? = some ⟨4,[59],0,p⟩:=by
    have:=congrArg (·[0]?) hd2
    simpa [List.getElem?_drop,tokT] using this
   rw [this];rfl
  | cons o os =>
   have:E.ts[s.i + 1]? = some ⟨4,[sg o],0,p + 1⟩:=by
    have:=congrArg (·[0]?) hd2
    simpa [List.getElem?_drop,tokT] using this
   rw [this]
   show ((4:Int) == 4 && [sg o] == [40]) = false
   unfold sg
   split <;> decide
 cases f with
 | zero=>rw [run] at hr;cases hr
 | succ f =>
  rw [run,hS,hS,if_neg (by decide),h2] at hr
  cases f with
  | zero=>rw [run] at hr;cases hr
  | succ f =>
   have hk:kept (tk E s).text = false:=by rw [h1];exact kept_v _
   have hk1:(tk E s).kind = 1:=by rw [h1];rfl
   rw [run,if_neg (by rw [hk1];decide),if_neg (by rw [hk1];decide),hS,if_neg (by decide),h2,if_neg (by rw [hcl];rintro ⟨_,h⟩;cases h),if_pos ⟨hk1,hk⟩] at hr
   cases hr
   refine ⟨_,by rw [h1];rfl,?_⟩
   rw [st_eq hc]
   rfl
theorem take_app (os:List Nat) (c d:Nat) (h:c ≤ os.length):os.take c ++ (os.drop c).take d = os.take (c + d):=by
 rw [List.take_add]
theorem lns_run (E:PE):∀ f,(∀ l n os s ks s2,1 ≤ l → l ≤ 4 → s.code = 0 → OpAt E s.i n os → run E f (.bin l) s = some (ks,s2) → BinR E l n os s ks s2) ∧
  (∀ l n0 pre os s x ks s2,1 ≤ l → l ≤ 3 → s.code = 0 → TlAt E s.i (n0 + pre.length) os → Lns pre n0 x → (∀ o ∈ pre,l ≤ lv o) → (∀ o,os[0]? = some o → lv o ≤ l) → run E f (.binL l x) s = some (ks,s2) → BinLR E l n0 pre os s ks s2):=by
 intro f
 induction f with
 | zero =>
  constructor
  ·intro l n os s ks s2 _ _ _ _ hr
   rw [run] at hr
   cases hr
  ·intro l n0 pre os s x ks s2 _ _ _ _ _ _ _ hr
   rw [run] at hr
   cases hr
 | succ f ih =>
  obtain ⟨ih1,ih2⟩:=ih
  constructor
  ·intro l n os s ks s2 h1 h4 hc hat hr
   by_cases hl:l = 4
   ·rw [run,if_pos hl] at hr
    obtain ⟨a,rfl,rfl⟩:=unary_name hc hat hr
    refine ⟨_,0,rfl,Nat.zero_le _,rfl,.leaf n a,by simp,fun o ho => ?_⟩
    have:=(lv_pos o).2
    omega
   ·rw [run,if_neg hl] at hr
    cases h5:run E f (.bin (l + 1)) s with
    | none=>rw [h5] at hr;cases hr
    | some r =>
     obtain ⟨xs,s3⟩:=r
     obtain ⟨x,c,rfl,hcl,rfl,hx,hge,hlt⟩:=ih1 (l + 1) n os s xs s3 (by omega) (by omega) hc hat h5
     rw [h5] at hr
     simp only at hr
     have hT:=TlAt.drop c os _ _ hat.tl hcl
     obtain ⟨y,d,rfl,hdl,rfl,hy,hge2,hlt2⟩:=ih2 l n (os.take c) (os.drop c) ⟨s.i + 1 + 2 * c,0,s.bad,s.deep⟩ x ks s2 h1 (by omega) rfl (by
      rw [List.length_take,Nat.min_eq_left hcl];exact hT) hx (fun o ho=>by have:=hge o ho;omega) (fun o ho=>by
      rw [List.getElem?_drop,Nat.add_zero] at ho
      have:=hlt o ho
      omega) hr
     rw [List.length_drop] at hdl
     rw [take_app os c d hcl] at hy hge2
     refine ⟨y,c + d,rfl,by omega,by simp only [PS.mk.injEq,and_true];omega,hy,hge2,fun o ho=>hlt2 o (by rw [List.getElem?_drop];exact ho)⟩
  ·intro l n0 pre os s x ks s2 h1 h3 hc hat hx hge h0 hr
   rw [run,if_neg (by rw [hc];decide)] at hr
   cases os with
   | nil =>
    obtain ⟨hA,hs⟩:=isAny_end (l:=l) hat hc h3
    rw [hA,if_neg (by decide),hs] at hr
    cases hr
    refine ⟨x,0,rfl,Nat.zero_le _,st_eq hc,by simpa using hx,by simpa using hge,fun o ho=>by simp at ho⟩
   | cons o os =>
    obtain ⟨hA,htk,hs⟩:=isAny_op (l:=l) hat hc h3
    by_cases hlo:lv o = l
    ·rw [hA,if_pos (by simpa using hlo),hs] at hr
     have hO:=hat.next
     cases h5:run E f (.bin (l + 1)) (inc s) with
     | none=>rw [h5] at hr;cases hr
     | some r =>
      obtain ⟨ys,s3⟩:=r
      obtain ⟨y,c,rfl,hcl,rfl,hy,hge2,hlt2⟩:=ih1 (l + 1) (n0 + pre.length + 1) os (inc s) ys s3 (by omega) (by omega) hc hO h5
      rw [h5] at hr
      simp only at hr
      rw [if_neg (by omega)] at hr
      have hT:=TlAt.drop c os _ _ hO.tl hcl
      have hN:Lns (pre ++ o :: os.take c) n0 (.mk 18 (tk E s).text 0 [x,y] (tk E s).at'):=by
       rw [htk]
       exact .node pre o (os.take c) n0 x y _ hx hy (fun q hq=>by have:=hge q hq;omega) (fun q hq=>by have:=hge2 q hq;omega)
      obtain ⟨z,d,rfl,hdl,rfl,hz,hge3,hlt3⟩:=ih2 l n0 (pre ++ o :: os.take c) (os.drop c) ⟨(inc s).i + 1 + 2 * c,0,(inc s).bad,(inc s).deep⟩ _ ks s2 h1 h3 rfl (by
       rw [List.length_append,List.length_cons,List.length_take,Nat.min_eq_left hcl]
       rw [show n0 + (pre.length + (c + 1)) = n0 + pre.length + 1 + c by omega]
       exact hT) hN (fun q hq=>by
       rcases List.mem_append.1 hq with hq | hq
       ·exact hge q hq
       ·rcases List.mem_cons.1 hq with rfl | hq
        ·omega
        ·have:=hge2 q hq;omega) (fun q hq=>by
       rw [List.getElem?_drop,Nat.add_zero] at hq
       have:=hlt2 q hq
       omega) hr
      rw [List.length_drop] at hdl
      have e:pre ++ o :: os.take c ++ (os.drop c).take d = pre ++ (o :: os).take (c + d + 1):=by
       rw [List.take_succ_cons,← take_app os c d hcl,List.append_assoc,List.cons_append]
      rw [e] at hz hge3
      refine ⟨z,c + d + 1,rfl,by simp;omega,by
       have e:s.i + 1 + 1 + 2 * c + 2 * d = s.i + 2 * (c + d + 1):=by omega
       show (⟨s.i + 1 + 1 + 2 * c + 2 * d,0,s.bad,s.deep⟩:PS) = _
       rw [e],hz,hge3,fun q hq=>hlt3 q (by rw [List.getElem?_drop];simpa using hq)⟩
    ·rw [hA,if_neg (by simpa using hlo),hs] at hr
     cases hr
     refine ⟨x,0,rfl,Nat.zero_le _,st_eq hc,by simpa using hx,by simpa using hge,fun q hq => ?_⟩
     simp only [List.getElem?_cons_zero,Option.some.injEq] at hq
     subst hq
     have:=h0 o rfl
     omega
theorem script_lns {l:List UInt8} (os:List Nat) (h:os.length ≤ 30) (hl:l = lnsT os) {f m:Nat} {kf:List Nd} {s9:PS} (hf:16 * 100001 + 2 ≤ f) (hm:2 ≤ m) (hr:stmtsR (envOf l) f m [] st0 = some (kf,s9)) :
  s9.code = 0 ∧ ∃ x,kf = [.mk 12 [] 0 [x] 0] ∧ Lns os 0 x:=by
 have hts:(envOf l).ts = ⟨1,[100,111],0,0⟩ :: ⟨1,118 :: decL 0,0,3⟩ :: tokT os 0 5:=by
  unfold envOf
  rw [hl,scan_lns os h]
 generalize hE:envOf l = E at *
 obtain ⟨m,rfl⟩:∃ k,m = k + 2:=⟨m - 2,by omega⟩
 have hd0:E.ts.drop st0.i = ⟨1,[100,111],0,0⟩ :: ⟨1,118 :: decL 0,0,3⟩ :: tokT os 0 5:=hts
 obtain ⟨t1,t2⟩:=at_tk hd0 rfl
 have hw:∀ g,isW E g st0 = ([100,111] == g):=fun g=>by unfold isW;rw [t1];rfl
 rw [stmtsR,if_neg (by decide),if_neg (by rw [t1];decide),t2] at hr
 obtain ⟨f,rfl⟩:∃ g,f = g + 1:=⟨f - 1,by omega⟩
 cases h1:run E (f + 1) .stmt st0 with
 | none=>rw [h1] at hr;cases hr
 | some r =>
 obtain ⟨ys,s3⟩:=r
 rw [h1] at hr
 rw [run,hw,hw,hw,hw,hw,if_neg (by decide),if_neg (by decide),if_neg (by decide),if_pos (by decide),t2,t1] at h1
 obtain ⟨f,rfl⟩:∃ g,f = g + 1:=⟨f - 1,by omega⟩
 have hO:OpAt E (inc st0).i 0 os:=⟨_,_,drop_more hd0⟩
 cases h2:run E (f + 1) (.bin 0) (inc st0) with
 | none=>rw [h2] at h1;cases h1
 | some r =>
 obtain ⟨xs,s4⟩:=r
 rw [h2] at h1
 rw [run,if_neg (by decide)] at h2
 cases h3:run E f (.bin 1) (inc st0) with
 | none=>rw [h3] at h2;cases h2
 | some r =>
 obtain ⟨zs,s5⟩:=r
 rw [h3] at h2
 obtain ⟨x,c,rfl,hcl,rfl,hx,-,hlt⟩:=(lns_run E f).1 1 0 os (inc st0) zs s5 (by omega) (by omega) rfl hO h3
 have hc:c = os.length:=by
  rcases Nat.lt_or_ge c os.length with hc | hc
  ·have:=hlt _ (List.getElem?_eq_getElem hc)
   have:=(lv_pos os[c]).1
   omega
  ·omega
 subst hc
 rw [List.take_length] at hx
 simp only at h2
 have hT:=TlAt.drop os.length os _ _ hO.tl (Nat.le_refl _)
 rw [List.drop_length] at hT
 cases f with
 | zero=>rw [run] at h2;cases h2
 | succ f =>
 obtain ⟨hA,hs⟩:=isAny_end (s:=⟨(inc st0).i + 1 + 2 * os.length,0,(inc st0).bad,(inc st0).deep⟩) (l:=0) hT rfl (by omega)
 rw [run,if_neg (fun h=>h rfl),hA,if_neg (by decide),hs] at h2
 cases h2
 obtain ⟨p,hp⟩:=hT
 obtain ⟨t3,t4⟩:=at_tk (s:=⟨(inc st0).i + 1 + 2 * os.length,0,(inc st0).bad,(inc st0).deep⟩) hp rfl
 have hmu:must E [59] ⟨(inc st0).i + 1 + 2 * os.length,0,(inc st0).bad,(inc st0).deep⟩ = ⟨(inc st0).i + 1 + 2 * os.length + 1,0,(inc st0).bad,(inc st0).deep⟩:=by
  unfold must
  rw [if_pos (by unfold isS;rw [t3];rfl),t4]
  rfl
 simp only at h1
 rw [hmu] at h1
 cases h1
 have hp2:=drop_more hp
 obtain ⟨t5,t6⟩:=at_tk (s:=⟨(inc st0).i + 1 + 2 * os.length + 1,0,(inc st0).bad,(inc st0).deep⟩) hp2 rfl
 simp only at hr
 rw [stmtsR,if_neg (fun h=>h rfl),if_pos (by rw [t5];rfl),t6] at hr
 cases hr
 exact ⟨rfl,x,rfl,hx⟩
end Go.Proofs.YtmfpmandkhiknaaGreatDoor.qar
namespace Go.Proofs.YtmfpmandkhiknaaGreatDoor.maps
open Go.RowKit
open heap
abbrev Nm:=List UInt8
def look (k:Nm):List (Nm × Value) → Nat → Option (Nat × Value)
 | [],_=>none
 | x :: r,i=>if k = x.1 then some (i,x.2) else look k r (i + 1)
def MapS (w:World) (b:Nat) (l:List (Nm × Value)):Prop:=
 ∃ (es:Array MapEntry) (clock:Nat),w.heap[b]? = some (.map es clock) ∧ es.toList.map (fun e=>(e.key,e.val)) = l.map (fun x=>(Value.string ⟨x.1.toArray⟩,x.2))
theorem MapS.lt {w:World} {b:Nat} {l:List (Nm × Value)} (h:MapS w b l):b < w.heap.size:=by
 obtain ⟨es,c,h1,_⟩:=h
 exact (Array.getElem?_eq_some_iff.1 h1).1
theorem MapS.kept {w w':World} {b:Nat} {l:List (Nm × Value)} (h:MapS w b l) (hk:w'.heap[b]? = w.heap[b]?):MapS w' b l:=by
 obtain ⟨es,c,h1,h2⟩:=h
 exact ⟨es,c,by rw [hk];exact h1,h2⟩
theorem MapS.turned {w w':World} {b:Nat} {l:List (Nm × Value)} {S:List Nat} (h:MapS w b l) (ht:Turned S w w') (hb:b ∉ S):MapS w' b l:=h.kept (ht.block b h.lt hb)
theorem MapS.new (w:World):MapS (w.alloc (.map #[] 0)) w.heap.size []:=⟨#[],0,blk_new _ _,rfl⟩
theorem str_inj {a b:Nm}:((⟨a.toArray⟩:ByteArray) = ⟨b.toArray⟩) ↔ a = b:=by
 constructor
 ·intro h
  have:=congrArg (fun x:ByteArray=>x.data.toList) h
  simpa using this
 ·rintro rfl;rfl
theorem find_s (k:Nm):∀ (es:List MapEntry) (l:List (Nm × Value)) (i:Nat),es.map (fun e=>(e.key,e.val)) = l.map (fun x=>(Value.string ⟨x.1.toArray⟩,x.2)) → Instr.findNow .string (.string ⟨k.toArray⟩) es i = some (look k l i)
 | [],[],i,_=>rfl
 | [],x :: l,i,h=>by simp at h
 | e :: es,[],i,h=>by simp at h
 | e :: es,x :: l,i,h=>by
  simp only [List.map_cons,List.cons.injEq,Prod.mk.injEq] at h
  obtain ⟨⟨h1,h2⟩,h3⟩:=h
  have ih:=find_s k es l (i + 1) h3
  rw [Instr.findNow,h1,look]
  by_cases hk:k = x.1
  ·have e1:Instr.sameNow .string (.string ⟨k.toArray⟩) (.string ⟨x.1.toArray⟩) = some true:=by
    simp only [Instr.sameNow]
    congr 1
    rw [MapKept.bytes_beq,hk]
   rw [e1,if_pos hk,h2]
  ·have e1:Instr.sameNow .string (.string ⟨k.toArray⟩) (.string ⟨x.1.toArray⟩) = some false:=by
    simp only [Instr.sameNow]
    congr 1
    rw [Bool.eq_false_iff]
    exact fun e=>hk (str_inj.1 ((MapKept.bytes_beq _ _).1 e))
   rw [e1,if_neg hk]
   exact ih
section
variable {P:Program} {t kt et:TypeId}
theorem run_lookup {w:World} {b:Nat} {l:List (Nm × Value)} (h:MapS w b l) (ht:P.underlying t = some (.map kt et)) (hk:P.underlying kt = some .string) (z:Value) (hz:(zeroValue et).run P w = .ok z w) (k:Nm) :
  (Instr.lookup t (.map (some b)) (.string ⟨k.toArray⟩) false).run P w = .ok ((look k l 0).map (·.2) |>.getD z) w:=by
 obtain ⟨es,c,h1,h2⟩:=h
 have hc:∀ e,(Instr.checkKey e 10000 kt (.string ⟨k.toArray⟩)).run P w = .ok () w:=fun e=>MapKept.run_checkKey (k:=.string ⟨k.toArray⟩) hk (by simp [MapKept.IsKey]) e 9999
 have hf:=find_s k es.toList l 0 h2
 cases hl:look k l 0 with
 | none =>
  rw [hl] at hf
  simp [Instr.lookup,run_underlying ht,MapKept.run_getObj_map h1,hc,MapKept.run_findKey hk hf,hz,Result.andThen]
 | some r =>
  obtain ⟨j,v⟩:=r
  rw [hl] at hf
  simp [Instr.lookup,run_underlying ht,MapKept.run_getObj_map h1,hc,MapKept.run_findKey hk hf,Result.andThen]
def upd (k:Nm) (v:Value) (l:List (Nm × Value)):List (Nm × Value):=match look k l 0 with
 | some (j,_)=>l.set j (k,v)
 | none=>l ++ [(k,v)]
theorem look_at {k:Nm}:∀ {l:List (Nm × Value)} {i j:Nat} {v:Value},look k l i = some (j,v) → i ≤ j ∧ l[j - i]? = some (k,v)
 | [],i,j,v,h=>by simp [look] at h
 | x :: l,i,j,v,h=>by
  rw [look] at h
  split at h
  ·rename_i hk
   simp only [Option.some.injEq,Prod.mk.injEq] at h
   obtain ⟨rfl,rfl⟩:=h
   refine ⟨Nat.le_refl _,?_⟩
   simp [hk]
  ·obtain ⟨h1,h2⟩:=look_at h
   refine ⟨by omega,?_⟩
   rw [show j - i = (j - (i + 1)) + 1 by omega]
   simpa using h2
theorem turned_setObj (w:World) (b:Nat) (o:Obj):Turned [b] w { w with heap:=w.heap.setIfInBounds b o }:=by
 refine ⟨rfl,rfl,rfl,by simp,fun k hk hn => ?_⟩
 show (w.heap.setIfInBounds b o)[k]? = _
 rw [Array.getElem?_setIfInBounds]
 rw [if_neg (by simp at hn;exact fun e=>hn e.symm)]
theorem run_update {w:World} {b:Nat} {l:List (Nm × Value)} (h:MapS w b l) (ht:P.underlying t = some (.map kt et)) (hk:P.underlying kt = some .string) (k:Nm) (v:Value) :
  ∃ w',(Instr.mapUpdate t (.map (some b)) (.string ⟨k.toArray⟩) v).run P w = .ok () w' ∧ MapS w' b (upd k v l) ∧ Turned [b] w w':=by
 obtain ⟨es,c,h1,h2⟩:=h
 have hb:b < w.heap.size:=(Array.getElem?_eq_some_iff.1 h1).1
 have hc:∀ e,(Instr.checkKey e 10000 kt (.string ⟨k.toArray⟩)).run P w = .ok () w:=fun e=>MapKept.run_checkKey (k:=.string ⟨k.toArray⟩) hk (by simp [MapKept.IsKey]) e 9999
 have hf:=find_s k es.toList l 0 h2
 cases hl:look k l 0 with
 | none =>
  rw [hl] at hf
  refine ⟨_,by simp [Instr.mapUpdate,run_underlying ht,MapKept.run_getObj_map h1,hc,MapKept.run_findKey hk hf,MapKept.run_setObj_map _ h1,Result.andThen];rfl,?_,turned_setObj _ _ _⟩
  refine ⟨_,_,by show (w.heap.setIfInBounds b _)[b]? = _;rw [Array.getElem?_setIfInBounds,if_pos rfl,if_pos hb],?_⟩
  unfold upd
  rw [hl]
  simp [h2]
 | some r =>
  obtain ⟨j,u⟩:=r
  rw [hl] at hf
  obtain ⟨-,hj⟩:=look_at hl
  rw [Nat.sub_zero] at hj
  have hj2:es.toList.length = l.length:=by simpa using congrArg List.length h2
  have hjl:j < l.length:=(List.getElem?_eq_some_iff.1 hj).1
  have hje:j < es.size:=by simpa [← hj2] using hjl
  have hkey:(es[j]?.map (·.key)).getD (.string ⟨k.toArray⟩) = .string ⟨k.toArray⟩:=by
   have e1:(es.toList.map (fun e=>(e.key,e.val)))[j]? = (l.map (fun x=>(Value.string ⟨x.1.toArray⟩,x.2)))[j]?:=by rw [h2]
   rw [List.getElem?_map,List.getElem?_map,hj,Array.getElem?_toList] at e1
   cases he:es[j]? with
   | none=>rfl
   | some e=>rw [he] at e1;simp at e1;simp [e1]
  have hks:(Instr.keyThatStays (.string ⟨k.toArray⟩) (.string ⟨k.toArray⟩)).run P w = .ok (.string ⟨k.toArray⟩) w:=by
   have:((⟨k.toArray⟩:ByteArray) == ⟨k.toArray⟩) = true:=(MapKept.bytes_beq _ _).2 rfl
   simp [Instr.keyThatStays,Instr.sameBits,this]
  refine ⟨_,by simp [Instr.mapUpdate,run_underlying ht,MapKept.run_getObj_map h1,hc,MapKept.run_findKey hk hf,hkey,hks,MapKept.run_setObj_map _ h1,Result.andThen];rfl,?_,turned_setObj _ _ _⟩
  refine ⟨_,_,by show (w.heap.setIfInBounds b _)[b]? = _;rw [Array.getElem?_setIfInBounds,if_pos rfl,if_pos hb],?_⟩
  unfold upd
  rw [hl]
  apply List.ext_getElem?
  intro n
  have e1:(es.toList.map (fun e=>(e.key,e.val)))[n]? = (l.map (fun x=>(Value.string ⟨x.1.toArray⟩,x.2)))[n]?:=by rw [h2]
  rw [List.getElem?_map,List.getElem?_map,Array.getElem?_toList] at e1
  rw [List.getElem?_map,List.getElem?_map,Array.getElem?_toList,Array.getElem?_modify]
  by_cases hn:j = n
  ·subst hn
   rw [if_pos rfl,List.getElem?_set_self hjl]
   simp [hje]
  ·rw [if_neg hn,List.getElem?_set_ne hn]
   exact e1
end
abbrev setL (s:List Nm):List (Nm × Value):=s.map fun x=>(x,.bool true)
end Go.Proofs.YtmfpmandkhiknaaGreatDoor.maps
