/-
  Proved: plain facts on the tokens of a text. Conditions: as each theorem says. No program is in sight.
  Proved: plain facts on the document's parser: a model with fuel. Conditions: as each theorem says. No program is in sight.
  Proved: the model of the document's parser comes to its end, with fuel enough (plain). Conditions: as each theorem says. No program is in sight.
  Proved: the model of the document's recipes and scripts: they end, and what a recipe without a fault looks like (plain). Conditions: as each theorem says. No program is in sight.
  Proved: a tree of nodes in memory: rows of kids, each of its own; what keeps it, how a kid is put behind. Conditions: as each theorem says. No program is in sight.
  Proved: how many nodes a tree has at most, and that their numbers have 64 bits (plain). Conditions: as each theorem says. No program is in sight.
-/
import Derived.Test.YtmfpmandkhiknaaGreatDoorPw5
import Derived.Test.YtmfpmandkhiknaaGreatDoorPw3
import Derived.Laws.AppendOwn
set_option linter.unusedVariables false
set_option linter.unusedSimpArgs false
namespace Go.Proofs.YtmfpmandkhiknaaGreatDoor.lex
open Go Go.RowKit
open flt (isD ofT)
def blankB (c:UInt8):Bool:=c == 32 || c == 9 || c == 10 || c == 13
def letB (c:UInt8):Bool:=(decide (97 ≤ c.toNat) && decide (c.toNat ≤ 122)) || (decide (65 ≤ c.toNat) && decide (c.toNat ≤ 90)) || c == 95
def wordB (c:UInt8):Bool:=letB c || isD c
def signB (c:UInt8):Bool := [123,125,40,41,59,44,61,60,43,45,42,47,37,38,33].contains c
def skp:Bool → List UInt8 → Nat
 | _,[]=>0
 | false,c :: r=>if blankB c then skp false r + 1 else if c = 35 then skp true r + 1 else 0
 | true,c :: r=>if c = 10 then skp false r + 1 else skp true r + 1
def runB (p:UInt8 → Bool) (l:List UInt8):Nat:=(l.takeWhile p).length
def escB (d:UInt8):Option UInt8:=if d = 34 then some 34 else if d = 92 then some 92 else if d = 110 then some 10 else if d = 116 then some 9 else none
def qtS:Bool → List UInt8 → Option (List UInt8 × Nat)
 | _,[]=>none
 | false,c :: r=>if c = 34 then some ([],1) else if c.toNat < 32 then none else if c = 92 then (qtS true r).map fun x=>(x.1,x.2 + 1) else (qtS false r).map fun x=>(c :: x.1,x.2 + 1)
 | true,d :: r=>match escB d with
  | none=>none
  | some e=>(qtS false r).map fun x=>(e :: x.1,x.2 + 1)
def numEnd (t:List UInt8):Nat:=if decide (runB isD t + 1 < t.length) && t.getD (runB isD t) 0 == 46 && isD (t.getD (runB isD t + 1) 0) then runB isD t + 1 + runB isD (t.drop (runB isD t + 1)) else runB isD t
structure Tk where
 kind:Int
 text:List UInt8
 num:Nat
 at':Nat
deriving DecidableEq
def tok (t:List UInt8):Except Int (Int × List UInt8 × Nat × Nat):=
 if letB (t.getD 0 0) then (if 32 < runB wordB t then .error 1800 else .ok (1,t.take (runB wordB t),0,runB wordB t))
 else if isD (t.getD 0 0) then (match ofT (t.take (numEnd t)) with
  | none=>.error 1802
  | some x=>if decide (numEnd t < t.length) && (letB (t.getD (numEnd t) 0) || t.getD (numEnd t) 0 == 46) then .error 1802 else .ok (2,t.take (numEnd t),x,numEnd t))
 else if t.getD 0 0 = 34 then (match qtS false (t.drop 1) with
  | none=>.error 1801
  | some x=>if 1024 < x.1.length then .error 1801 else .ok (3,x.1,0,x.2 + 1))
 else if t.getD 0 0 = 61 ∧ 1 < t.length ∧ t.getD 1 0 = 61 then .ok (4,[61,61],0,2)
 else if signB (t.getD 0 0) then .ok (4,[t.getD 0 0],0,1)
 else .error 1800
def scanF:Nat → List UInt8 → Nat → List Tk × Nat × Int
 | 0,_,_=>([],0,0)
 | f + 1,t,a=>if t = [] then ([⟨0,[],0,a⟩],0,0) else match tok t with
  | .error e=>([],a,e)
  | .ok x=>(⟨x.1,x.2.1,x.2.2.1,a⟩ :: (scanF f ((t.drop x.2.2.2).drop (skp false (t.drop x.2.2.2))) (a + x.2.2.2 + skp false (t.drop x.2.2.2))).1,(scanF f ((t.drop x.2.2.2).drop (skp false (t.drop x.2.2.2))) (a + x.2.2.2 + skp false (t.drop x.2.2.2))).2)
def scanL (l:List UInt8):List Tk × Nat × Int:=if 16384 < l.length then ([],0,1803) else scanF (l.length + 1) (l.drop (skp false l)) (skp false l)
theorem skp_le:∀ (b:Bool) (l:List UInt8),skp b l ≤ l.length
 | _,[]=>by simp [skp]
 | false,c :: r=>by
  have h1:=skp_le false r
  have h2:=skp_le true r
  rw [skp,List.length_cons]
  split
  ·omega
  ·split <;> omega
 | true,c :: r=>by
  have h1:=skp_le false r
  have h2:=skp_le true r
  rw [skp,List.length_cons]
  split <;> omega
theorem runB_le (p:UInt8 → Bool) (l:List UInt8):runB p l ≤ l.length:=by
 unfold runB
 exact (List.takeWhile_sublist p).length_le
theorem runB_pos {p:UInt8 → Bool} {t:List UInt8} (h:t ≠ []) (hp:p (t.getD 0 0) = true):1 ≤ runB p t:=by
 cases t with
 | nil=>exact absurd rfl h
 | cons c r =>
  have:p c = true:=hp
  simp [runB,this]
theorem qt_le:∀ (b:Bool) (l:List UInt8) (x:List UInt8 × Nat),qtS b l = some x → 1 ≤ x.2 ∧ x.2 ≤ l.length
 | _,[],x,h=>by simp [qtS] at h
 | false,c :: r,x,h=>by
  rw [qtS] at h
  split at h
  ·cases h;simp
  ·split at h
   ·cases h
   ·split at h
    ·obtain ⟨y,hy,rfl⟩:=Option.map_eq_some_iff.1 h
     have:=qt_le true r y hy
     simp;omega
    ·obtain ⟨y,hy,rfl⟩:=Option.map_eq_some_iff.1 h
     have:=qt_le false r y hy
     simp;omega
 | true,d :: r,x,h=>by
  rw [qtS] at h
  split at h
  ·cases h
  ·obtain ⟨y,hy,rfl⟩:=Option.map_eq_some_iff.1 h
   have:=qt_le false r y hy
   simp;omega
theorem numEnd_le (t:List UInt8):numEnd t ≤ t.length:=by
 unfold numEnd
 split
 ·rename_i h
  simp only [Bool.and_eq_true,decide_eq_true_iff] at h
  have:=runB_le isD (t.drop (runB isD t + 1))
  rw [List.length_drop] at this
  omega
 ·exact runB_le _ _
theorem numEnd_pos {t:List UInt8} (h:t ≠ []) (hp:isD (t.getD 0 0) = true):1 ≤ numEnd t:=by
 have:=runB_pos (p:=isD) h hp
 unfold numEnd
 split <;> omega
theorem tok_len {t:List UInt8} (h:t ≠ []) {x:Int × List UInt8 × Nat × Nat} (hx:tok t = .ok x):1 ≤ x.2.2.2 ∧ x.2.2.2 ≤ t.length:=by
 have hl:1 ≤ t.length:=by cases t with
  | nil=>exact absurd rfl h
  | cons _ _=>simp
 unfold tok at hx
 split at hx
 ·rename_i hc
  split at hx
  ·cases hx
  ·cases hx
   exact ⟨runB_pos h (by unfold wordB;rw [hc];rfl),runB_le _ _⟩
 ·split at hx
  ·rename_i hc
   split at hx
   ·cases hx
   ·split at hx
    ·cases hx
    ·cases hx
     exact ⟨numEnd_pos h hc,numEnd_le _⟩
  ·split at hx
   ·split at hx
    ·cases hx
    ·rename_i y hy
     split at hx
     ·cases hx
     ·cases hx
      have:=qt_le false _ _ hy
      rw [List.length_drop] at this
      show 1 ≤ y.2 + 1 ∧ y.2 + 1 ≤ t.length
      omega
   ·split at hx
    ·rename_i h2
     cases hx
     exact ⟨Nat.le_succ 1,h2.2.1⟩
    ·split at hx
     ·cases hx;exact ⟨Nat.le_refl 1,hl⟩
     ·cases hx
end Go.Proofs.YtmfpmandkhiknaaGreatDoor.lex
namespace Go.Proofs.YtmfpmandkhiknaaGreatDoor.par
open Go Go.RowKit
open lex (Tk)
inductive Nd where
 | mk (kind:Int) (text:List UInt8) (num:Nat) (kids:List Nd) (at':Int)
structure Tn where
 kind:Int
 text:List UInt8
 num:Nat
 at':Int
deriving DecidableEq
def tnOf (t:Tk):Tn:=⟨t.kind,t.text,t.num,t.at'⟩
def endT:Tn:=⟨0,[],0,-1⟩
structure PE where
 ts:List Tk
 lat:Int
 lex:Int
structure PS where
 i:Nat
 code:Int
 bad:Int
 deep:Int
deriving DecidableEq
def flt (s:PS) (c a:Int):PS:=if s.code = 0 then { s with code:=c,bad:=a } else s
def pT (E:PE) (s:PS):Tn × PS:=if s.code ≠ 0 then (endT,s) else match E.ts[s.i]? with
 | some t=>(tnOf t,s)
 | none=>(endT,flt s E.lex E.lat)
def tk (E:PE) (s:PS):Tn:=(pT E s).1
def sT (E:PE) (s:PS):PS:=(pT E s).2
def wrong (E:PE) (s:PS):PS:=flt (sT E s) 1900 (tk E s).at'
def isS (E:PE) (g:List UInt8) (s:PS):Bool:=(tk E s).kind == 4 && (tk E s).text == g
def isW (E:PE) (g:List UInt8) (s:PS):Bool:=(tk E s).kind == 1 && (tk E s).text == g
def inc (s:PS):PS:={ s with i:=s.i + 1 }
def must (E:PE) (g:List UInt8) (s:PS):PS:=if isS E g s then inc (sT E s) else wrong E (sT E s)
def two (E:PE) (s:PS):PS:=⟨s.i + 2,(sT E s).code,(sT E s).bad,(sT E s).deep⟩
def keptL:List (List UInt8) := [[102,114,111,109],[97,115],[99,111,112,121],[114,117,110],[119,111,114,107,100,105,114],[109,107,100,105,114],[114,101,109,111,118,101],[115,101,116],[105,102],[101,108,115,101],[119,104,105,108,101],[100,111],[102,97,105,108]]
def kept (g:List UInt8):Bool:=keptL.contains g
def pName (E:PE) (s:PS):(List UInt8 × Int) × PS:=if (tk E s).kind ≠ 1 ∨ kept (tk E s).text = true then (([],0),wrong E (sT E s)) else (((tk E s).text,(tk E s).at'),inc (sT E s))
def into (s:PS) (a:Int):Bool × PS:=if 40 < s.deep then (false,flt s 1901 a) else (true,{ s with deep:=wrap64 (s.deep + 1) })
def out (s:PS):PS:={ s with deep:=wrap64 (s.deep - 1) }
def called (E:PE) (s:PS):Bool:=match E.ts[s.i + 1]? with
 | some t=>t.kind == 4 && t.text == [40]
 | none=>false
def begins (E:PE) (s:PS):Bool:=(tk E s).kind == 2 || (tk E s).kind == 3 || isS E [40] s || isS E [45] s || isS E [33] s || ((tk E s).kind == 1 && (called E s || !kept (tk E s).text))
def signsOf (l:Nat):List (List UInt8):=if l = 0 then [[61,61],[60]] else if l = 1 then [[38]] else if l = 2 then [[43],[45]] else [[42],[47],[37]]
def isAny (E:PE) (l:Nat) (s:PS):Bool:=(signsOf l).any fun g=>isS E g s
def zero:Nd:=.mk 0 [] 0 [] 0
inductive Job where
 | bin (l:Nat)
 | binL (l:Nat) (x:Nd)
 | unary
 | inner
 | primary
 | args (ks:List Nd)
 | block
 | blockL (ks:List Nd)
 | stmt
def run (E:PE):Nat → Job → PS → Option (List Nd × PS)
 | 0,_,_=>none
 | f + 1,.bin l,s=>if l = 4 then run E f .unary s else match run E f (.bin (l + 1)) s with
  | some ([x],s)=>run E f (.binL l x) s
  | _=>none
 | f + 1,.binL l x,s=>if s.code ≠ 0 then some ([x],s) else
  if isAny E l s then (match run E f (.bin (l + 1)) (inc (sT E s)) with
   | some ([y],s2)=>if l = 0 then some ([.mk 18 (tk E s).text 0 [x,y] (tk E s).at'],s2) else run E f (.binL l (.mk 18 (tk E s).text 0 [x,y] (tk E s).at')) s2
   | _=>none)
  else some ([x],sT E s)
 | f + 1,.unary,s=>if isS E [45] s || isS E [33] s then
   (if begins E (inc (sT E s)) then
    (if (into (sT E (inc (sT E s))) (tk E (inc (sT E s))).at').1 then (match run E f .unary (into (sT E (inc (sT E s))) (tk E (inc (sT E s))).at').2 with
     | some ([x],s2)=>some ([.mk 17 (tk E s).text 0 [x] (tk E s).at'],out s2)
     | _=>none)
    else some ([zero],(into (sT E (inc (sT E s))) (tk E (inc (sT E s))).at').2))
   else some ([zero],wrong E (sT E (inc (sT E s)))))
  else run E f .primary (sT E s)
 | f + 1,.inner,s=>if begins E s then
   (if (into (sT E s) (tk E s).at').1 then (match run E f (.bin 0) (into (sT E s) (tk E s).at').2 with
    | some ([x],s2)=>some ([x],out s2)
    | _=>none)
   else some ([zero],(into (sT E s) (tk E s).at').2))
  else some ([zero],wrong E (sT E s))
 | f + 1,.primary,s=>if (tk E s).kind = 2 then some ([.mk 15 [] (tk E s).num [] (tk E s).at'],inc (sT E s))
  else if (tk E s).kind = 3 then some ([.mk 16 (tk E s).text 0 [] (tk E s).at'],inc (sT E s))
  else if isS E [40] s then (match run E f .inner (inc (sT E s)) with
   | some ([x],s2)=>some ([x],must E [41] s2)
   | _=>none)
  else if (tk E s).kind = 1 ∧ called E (sT E s) = true then (match run E f (.args []) (two E s) with
   | some (ks,s2)=>some ([.mk 19 (tk E s).text 0 ks (tk E s).at'],must E [41] s2)
   | _=>none)
  else if (tk E s).kind = 1 ∧ kept (tk E s).text = false then some ([.mk 14 (tk E s).text 0 [] (tk E s).at'],inc (sT E s))
  else some ([zero],wrong E (sT E s))
 | f + 1,.args ks,s=>if isS E [41] s || (sT E s).code ≠ 0 then some (ks,sT E s) else (match run E f .inner (sT E s) with
   | some ([x],s2)=>if isS E [44] s2 then (if isS E [41] (inc (sT E s2)) then run E f (.args (ks ++ [x])) (wrong E (sT E (inc (sT E s2)))) else run E f (.args (ks ++ [x])) (sT E (inc (sT E s2)))) else some (ks ++ [x],sT E s2)
   | _=>none)
 | f + 1,.block,s=>if isS E [123] s ∧ (into (sT E s) (tk E s).at').1 = false then some ([zero],(into (sT E s) (tk E s).at').2)
  else (match run E f (.blockL []) (must E [123] (if isS E [123] s then (into (sT E s) (tk E s).at').2 else sT E s)) with
   | some (ks,s2)=>some ([.mk 8 [] 0 ks (tk E s).at'],out (must E [125] s2))
   | _=>none)
 | f + 1,.blockL ks,s=>if s.code ≠ 0 then some (ks,s) else if isS E [125] s then some (ks,sT E s) else (match run E f .stmt (sT E s) with
   | some ([x],s2)=>run E f (.blockL (ks ++ [x])) s2
   | _=>none)
 | f + 1,.stmt,s =>
  if isW E [115,101,116] s then (match run E f (.bin 0) (must E [61] (pName E (inc (sT E s))).2) with
   | some ([x],s2)=>some ([.mk 9 (pName E (inc (sT E s))).1.1 0 [x] (tk E s).at'],must E [59] s2)
   | _=>none)
  else if isW E [105,102] s then (match run E f (.bin 0) (inc (sT E s)) with
   | some ([c],s2)=>(match run E f .block s2 with
    | some ([b],s3)=>if isW E [101,108,115,101] s3 then (match run E f .block (inc (sT E s3)) with
      | some ([o],s4)=>some ([.mk 10 [] 0 [c,b,o] (tk E s).at'],s4)
      | _=>none)
     else some ([.mk 10 [] 0 [c,b,.mk 0 [] 0 [] (tk E s).at'] (tk E s).at'],sT E s3)
    | _=>none)
   | _=>none)
  else if isW E [119,104,105,108,101] s then (match run E f (.bin 0) (inc (sT E s)) with
   | some ([c],s2)=>(match run E f .block s2 with
    | some ([b],s3)=>some ([.mk 11 [] 0 [c,b] (tk E s).at'],s3)
    | _=>none)
   | _=>none)
  else if isW E [100,111] s || isW E [102,97,105,108] s then (match run E f (.bin 0) (inc (sT E s)) with
   | some ([x],s2)=>some ([.mk (if (tk E s).text = [102,97,105,108] then 13 else 12) [] 0 [x] (tk E s).at'],must E [59] s2)
   | _=>none)
  else some ([.mk 0 [] 0 [] (tk E s).at'],wrong E (sT E s))
theorem pT_bad {E:PE} {s:PS} (h:s.code ≠ 0):pT E s = (endT,s):=if_pos h
theorem pT_ok {E:PE} {s:PS} {t:Tk} (h:s.code = 0) (ht:E.ts[s.i]? = some t):pT E s = (tnOf t,s):=by
 unfold pT;rw [if_neg (by simp [h]),ht]
theorem pT_no {E:PE} {s:PS} (h:s.code = 0) (ht:E.ts[s.i]? = none):pT E s = (endT,{ s with code:=E.lex,bad:=E.lat }):=by
 unfold pT;rw [if_neg (by simp [h]),ht]
 simp only [flt,if_pos h]
theorem pT_pT (E:PE) (s:PS):pT E (pT E s).2 = pT E s:=by
 by_cases h:s.code = 0
 ·cases ht:E.ts[s.i]? with
  | some t=>rw [pT_ok h ht];exact pT_ok h ht
  | none =>
   rw [pT_no h ht]
   by_cases h2:E.lex = 0
   ·exact pT_no (s:={ s with code:=E.lex,bad:=E.lat }) h2 ht
   ·exact pT_bad (s:={ s with code:=E.lex,bad:=E.lat }) h2
 ·rw [pT_bad h];exact pT_bad h
theorem tk_sT (E:PE) (s:PS):tk E (sT E s) = tk E s:=congrArg Prod.fst (pT_pT E s)
theorem sT_sT (E:PE) (s:PS):sT E (sT E s) = sT E s:=congrArg Prod.snd (pT_pT E s)
theorem isS_sT (E:PE) (g:List UInt8) (s:PS):isS E g (sT E s) = isS E g s:=by unfold isS;rw [tk_sT]
theorem isW_sT (E:PE) (g:List UInt8) (s:PS):isW E g (sT E s) = isW E g s:=by unfold isW;rw [tk_sT]
theorem sT_i (E:PE) (s:PS):(sT E s).i = s.i:=by
 unfold sT pT
 split
 ·rfl
 ·split
  ·rfl
  ·unfold flt;split <;> rfl
theorem flt_code (s:PS) (c a:Int) (hc:c ≠ 0):(flt s c a).code ≠ 0:=by
 unfold flt
 split
 ·exact hc
 ·assumption
theorem wrong_code (E:PE) (s:PS):(wrong E s).code ≠ 0:=flt_code _ _ _ (by decide)
def ms (E:PE) (s:PS):Nat:=if s.code ≠ 0 then 0 else E.ts.length - s.i + 1
theorem ms_bad {E:PE} {s:PS} (h:s.code ≠ 0):ms E s = 0:=if_pos h
theorem ms_ok {E:PE} {s:PS} (h:s.code = 0):ms E s = E.ts.length - s.i + 1:=if_neg (by simp [h])
theorem ms_i {E:PE} {s t:PS} (hc:t.code = s.code) (hi:s.i ≤ t.i):ms E t ≤ ms E s:=by
 by_cases h:s.code = 0
 ·rw [ms_ok h,ms_ok (by rw [hc];exact h)];omega
 ·rw [ms_bad (by rw [hc];exact h)];exact Nat.zero_le _
theorem ms_flt (E:PE) (s:PS) (c a:Int):ms E (flt s c a) ≤ ms E s:=by
 unfold flt
 split
 ·rename_i h
  by_cases hc:c = 0
  ·exact ms_i (by simp [h,hc]) (Nat.le_refl _)
  ·rw [ms_bad (s:={ s with code:=c,bad:=a }) hc];exact Nat.zero_le _
 ·exact Nat.le_refl _
theorem ms_sT (E:PE) (s:PS):ms E (sT E s) ≤ ms E s:=by
 unfold sT pT
 split
 ·exact Nat.le_refl _
 ·split
  ·exact Nat.le_refl _
  ·exact ms_flt _ _ _ _
theorem ms_wrong (E:PE) (s:PS):ms E (wrong E s) = 0:=ms_bad (wrong_code E s)
theorem tk_kind {E:PE} {s:PS} (h:(tk E s).kind ≠ 0):s.code = 0 ∧ s.i < E.ts.length ∧ sT E s = s:=by
 unfold tk at h
 unfold sT
 by_cases hc:s.code = 0
 ·cases ht:E.ts[s.i]? with
  | some t =>
   rw [pT_ok hc ht]
   exact ⟨hc,(List.getElem?_eq_some_iff.1 ht).1,rfl⟩
  | none=>rw [pT_no hc ht] at h;exact absurd rfl h
 ·rw [pT_bad hc] at h;exact absurd rfl h
theorem ms_inc {E:PE} {s:PS} (h:(tk E s).kind ≠ 0):ms E (inc (sT E s)) < ms E s:=by
 obtain ⟨h1,h2,h3⟩:=tk_kind h
 rw [h3,ms_ok h1,ms_ok (s:=inc s) h1]
 show E.ts.length - (s.i + 1) + 1 < _
 omega
theorem isS_kind {E:PE} {g:List UInt8} {s:PS} (h:isS E g s = true):(tk E s).kind = 4 ∧ (tk E s).text = g:=by
 unfold isS at h
 rw [Bool.and_eq_true,beq_iff_eq,beq_iff_eq] at h
 exact h
theorem isW_kind {E:PE} {g:List UInt8} {s:PS} (h:isW E g s = true):(tk E s).kind = 1 ∧ (tk E s).text = g:=by
 unfold isW at h
 rw [Bool.and_eq_true,beq_iff_eq,beq_iff_eq] at h
 exact h
theorem isAny_kind {E:PE} {l:Nat} {s:PS} (h:isAny E l s = true):(tk E s).kind = 4:=by
 unfold isAny at h
 rw [List.any_eq_true] at h
 obtain ⟨g,-,hg⟩:=h
 exact (isS_kind hg).1
theorem ms_must (E:PE) (g:List UInt8) (s:PS):ms E (must E g s) ≤ ms E s:=by
 unfold must
 split
 ·rename_i h
  exact Nat.le_of_lt (ms_inc (by rw [(isS_kind h).1];decide))
 ·rw [ms_wrong];exact Nat.zero_le _
theorem ms_pName (E:PE) (s:PS):ms E (pName E s).2 ≤ ms E s:=by
 unfold pName
 split
 ·rw [ms_wrong];exact Nat.zero_le _
 ·rename_i h
  refine Nat.le_of_lt (ms_inc ?_)
  have:(tk E s).kind = 1:=Classical.byContradiction fun hc=>h (.inl hc)
  rw [this];decide
theorem ms_into (E:PE) (s:PS) (a:Int):ms E (into s a).2 ≤ ms E s:=by
 unfold into
 split
 ·exact ms_flt _ _ _ _
 ·exact Nat.le_refl _
theorem ms_out (E:PE) (s:PS):ms E (out s) = ms E s:=rfl
def rank:Job → Nat
 | .bin l=>8 - l
 | .binL _ _=>1
 | .unary=>3
 | .inner=>9
 | .primary=>2
 | .args _=>10
 | .block=>4
 | .blockL _=>3
 | .stmt=>2
def Job.single:Job → Bool
 | .args _=>false
 | .blockL _=>false
 | _=>true
def Ends (E:PE) (j:Job) (s:PS) (r:Option (List Nd × PS)):Prop:=∃ ks s2,r = some (ks,s2) ∧ ms E s2 ≤ ms E s ∧ (j.single = true → ∃ x,ks = [x]) ∧ (j = .stmt → s.code = 0 → ms E s2 < ms E s)
theorem Ends.one {E:PE} {j:Job} {s:PS} {r:Option (List Nd × PS)} (h:Ends E j s r) (hj:j.single = true):∃ x s2,r = some ([x],s2) ∧ ms E s2 ≤ ms E s ∧ (j = .stmt → s.code = 0 → ms E s2 < ms E s):=by
 obtain ⟨ks,s2,h1,h2,h3,h4⟩:=h
 obtain ⟨x,rfl⟩:=h3 hj
 exact ⟨x,s2,h1,h2,h4⟩
def okJ:Job → Prop
 | .bin l=>l ≤ 4
 | .binL l _=>l ≤ 3
 | _=>True
theorem run_ends (E:PE) (f:Nat):∀ (j:Job) (s:PS),okJ j → 16 * ms E s + rank j ≤ f → Ends E j s (run E f j s):=by
 induction f with
 | zero =>
  intro j s hj h
  exfalso
  cases j <;> simp [rank] at h
  simp [okJ] at hj
  omega
 | succ f ih =>
  intro j s hj h
  cases j with
  | bin l =>
   have hj':l ≤ 4:=hj
   simp only [rank] at h
   rw [run]
   by_cases hl:l = 4
   ·rw [if_pos hl]
    obtain ⟨x,s2,h1,h2,-⟩:=(ih .unary s trivial (by simp only [rank];omega)).one rfl
    exact ⟨_,s2,h1,h2,fun _=>⟨x,rfl⟩,fun hc=>by cases hc⟩
   ·rw [if_neg hl]
    obtain ⟨x,s2,h1,h2,-⟩:=(ih (.bin (l + 1)) s (by simp only [okJ];omega) (by simp only [rank];omega)).one rfl
    rw [h1]
    obtain ⟨y,s3,h3,h4,-⟩:=(ih (.binL l x) s2 (by simp only [okJ];omega) (by simp only [rank];omega)).one rfl
    exact ⟨_,s3,h3,by omega,fun _=>⟨y,rfl⟩,fun hc=>by cases hc⟩
  | binL l x =>
   have hj':l ≤ 3:=hj
   simp only [rank] at h
   rw [run]
   by_cases hc:s.code = 0
   ·rw [if_neg (by simp [hc])]
    by_cases ha:isAny E l s = true
    ·rw [if_pos ha]
     have hi:=ms_inc (E:=E) (s:=s) (by rw [isAny_kind ha];decide)
     obtain ⟨y,s2,h1,h2,-⟩:=(ih (.bin (l + 1)) (inc (sT E s)) (by simp only [okJ];omega) (by simp only [rank];omega)).one rfl
     rw [h1]
     by_cases hl:l = 0
     ·simp only [if_pos hl]
      exact ⟨_,s2,rfl,by omega,fun _=>⟨_,rfl⟩,fun hc=>by cases hc⟩
     ·simp only [if_neg hl]
      obtain ⟨z,s3,h3,h4,-⟩:=(ih (.binL l (.mk 18 (tk E s).text 0 [x,y] (tk E s).at')) s2 (by simp only [okJ];omega) (by simp only [rank];omega)).one rfl
      exact ⟨_,s3,h3,by omega,fun _=>⟨z,rfl⟩,fun hc=>by cases hc⟩
    ·rw [if_neg ha]
     exact ⟨_,_,rfl,ms_sT _ _,fun _=>⟨_,rfl⟩,fun hc=>by cases hc⟩
   ·rw [if_pos hc]
    exact ⟨_,_,rfl,Nat.le_refl _,fun _=>⟨_,rfl⟩,fun hc=>by cases hc⟩
  | unary =>
   simp only [rank] at h
   rw [run]
   have hs:=ms_sT E s
   by_cases ha:(isS E [45] s || isS E [33] s) = true
   ·rw [if_pos ha]
    have hk:(tk E s).kind ≠ 0:=by
     rcases Bool.or_eq_true_iff.1 ha with h1 | h1
     ·rw [(isS_kind h1).1];decide
     ·rw [(isS_kind h1).1];decide
    have hi:=ms_inc (E:=E) hk
    have hs2:=ms_sT E (inc (sT E s))
    by_cases hb:begins E (inc (sT E s)) = true
    ·rw [if_pos hb]
     have hin:=ms_into E (sT E (inc (sT E s))) (tk E (inc (sT E s))).at'
     by_cases hd:(into (sT E (inc (sT E s))) (tk E (inc (sT E s))).at').1 = true
     ·rw [if_pos hd]
      obtain ⟨x,s2,h1,h2,-⟩:=(ih .unary (into (sT E (inc (sT E s))) (tk E (inc (sT E s))).at').2 trivial (by simp only [rank];omega)).one rfl
      rw [h1]
      exact ⟨_,_,rfl,by rw [ms_out];omega,fun _=>⟨_,rfl⟩,fun hc=>by cases hc⟩
     ·rw [if_neg hd]
      exact ⟨_,_,rfl,by omega,fun _=>⟨_,rfl⟩,fun hc=>by cases hc⟩
    ·rw [if_neg hb]
     exact ⟨_,_,rfl,by rw [ms_wrong];omega,fun _=>⟨_,rfl⟩,fun hc=>by cases hc⟩
   ·rw [if_neg ha]
    obtain ⟨x,s2,h1,h2,-⟩:=(ih .primary (sT E s) trivial (by simp only [rank];omega)).one rfl
    exact ⟨_,s2,h1,by omega,fun _=>⟨x,rfl⟩,fun hc=>by cases hc⟩
  | inner =>
   simp only [rank] at h
   rw [run]
   have hs:=ms_sT E s
   by_cases hb:begins E s = true
   ·rw [if_pos hb]
    have hin:=ms_into E (sT E s) (tk E s).at'
    by_cases hd:(into (sT E s) (tk E s).at').1 = true
    ·rw [if_pos hd]
     obtain ⟨x,s2,h1,h2,-⟩:=(ih (.bin 0) (into (sT E s) (tk E s).at').2 (by simp only [okJ];omega) (by simp only [rank];omega)).one rfl
     rw [h1]
     exact ⟨_,_,rfl,by rw [ms_out];omega,fun _=>⟨_,rfl⟩,fun hc=>by cases hc⟩
    ·rw [if_neg hd]
     exact ⟨_,_,rfl,by omega,fun _=>⟨_,rfl⟩,fun hc=>by cases hc⟩
   ·rw [if_neg hb]
    exact ⟨_,_,rfl,by rw [ms_wrong];omega,fun _=>⟨_,rfl⟩,fun hc=>by cases hc⟩
  | primary =>
   simp only [rank] at h
   rw [run]
   have hs:=ms_sT E s
   by_cases h2:(tk E s).kind = 2
   ·rw [if_pos h2]
    exact ⟨_,_,rfl,Nat.le_of_lt (ms_inc (by rw [h2];decide)),fun _=>⟨_,rfl⟩,fun hc=>by cases hc⟩
   ·rw [if_neg h2]
    by_cases h3:(tk E s).kind = 3
    ·rw [if_pos h3]
     exact ⟨_,_,rfl,Nat.le_of_lt (ms_inc (by rw [h3];decide)),fun _=>⟨_,rfl⟩,fun hc=>by cases hc⟩
    ·rw [if_neg h3]
     by_cases h4:isS E [40] s = true
     ·rw [if_pos h4]
      have hi:=ms_inc (E:=E) (s:=s) (by rw [(isS_kind h4).1];decide)
      obtain ⟨x,s2,h5,h6,-⟩:=(ih .inner (inc (sT E s)) trivial (by simp only [rank];omega)).one rfl
      rw [h5]
      have:=ms_must E [41] s2
      exact ⟨_,_,rfl,by omega,fun _=>⟨_,rfl⟩,fun hc=>by cases hc⟩
     ·rw [if_neg h4]
      by_cases h5:(tk E s).kind = 1 ∧ called E (sT E s) = true
      ·rw [if_pos h5]
       have hi:=ms_inc (E:=E) (s:=s) (by rw [h5.1];decide)
       have hi2:ms E (two E s) ≤ ms E (inc (sT E s)):=ms_i rfl (by show (sT E s).i + 1 ≤ s.i + 2;rw [sT_i];omega)
       obtain ⟨ks,s2,h6,h7,-,-⟩:=ih (.args []) (two E s) trivial (by simp only [rank];omega)
       rw [h6]
       have:=ms_must E [41] s2
       exact ⟨_,_,rfl,by omega,fun _=>⟨_,rfl⟩,fun hc=>by cases hc⟩
      ·rw [if_neg h5]
       by_cases h6:(tk E s).kind = 1 ∧ kept (tk E s).text = false
       ·rw [if_pos h6]
        exact ⟨_,_,rfl,Nat.le_of_lt (ms_inc (by rw [h6.1];decide)),fun _=>⟨_,rfl⟩,fun hc=>by cases hc⟩
       ·rw [if_neg h6]
        exact ⟨_,_,rfl,by rw [ms_wrong];omega,fun _=>⟨_,rfl⟩,fun hc=>by cases hc⟩
  | args ks =>
   simp only [rank] at h
   rw [run]
   have hs:=ms_sT E s
   by_cases h1:(isS E [41] s || (sT E s).code ≠ 0) = true
   ·rw [if_pos h1]
    exact ⟨_,_,rfl,hs,fun hc=>(by cases hc),fun hc=>by cases hc⟩
   ·rw [if_neg h1]
    obtain ⟨x,s2,h2,h3,-⟩:=(ih .inner (sT E s) trivial (by simp only [rank];omega)).one rfl
    rw [h2]
    simp only
    have hs2:=ms_sT E s2
    by_cases h4:isS E [44] s2 = true
    ·rw [if_pos h4]
     have hi:=ms_inc (E:=E) (s:=s2) (by rw [(isS_kind h4).1];decide)
     have hs3:=ms_sT E (inc (sT E s2))
     by_cases h5:isS E [41] (inc (sT E s2)) = true
     ·rw [if_pos h5]
      have hw:=ms_wrong E (sT E (inc (sT E s2)))
      obtain ⟨ks2,s3,h6,h7,-,-⟩:=ih (.args (ks ++ [x])) (wrong E (sT E (inc (sT E s2)))) trivial (by simp only [rank];omega)
      exact ⟨_,_,h6,by omega,fun hc=>(by cases hc),fun hc=>by cases hc⟩
     ·rw [if_neg h5]
      obtain ⟨ks2,s3,h6,h7,-,-⟩:=ih (.args (ks ++ [x])) (sT E (inc (sT E s2))) trivial (by simp only [rank];omega)
      exact ⟨_,_,h6,by omega,fun hc=>(by cases hc),fun hc=>by cases hc⟩
    ·rw [if_neg h4]
     exact ⟨_,_,rfl,by omega,fun hc=>(by cases hc),fun hc=>by cases hc⟩
  | block =>
   simp only [rank] at h
   rw [run]
   have hs:=ms_sT E s
   have hin:=ms_into E (sT E s) (tk E s).at'
   by_cases h1:isS E [123] s = true ∧ (into (sT E s) (tk E s).at').1 = false
   ·rw [if_pos h1]
    exact ⟨_,_,rfl,by omega,fun _=>⟨_,rfl⟩,fun hc=>by cases hc⟩
   ·rw [if_neg h1]
    have hm:ms E (must E [123] (if isS E [123] s then (into (sT E s) (tk E s).at').2 else sT E s)) ≤ ms E s:=by
     refine Nat.le_trans (ms_must _ _ _) ?_
     split <;> omega
    obtain ⟨ks,s2,h2,h3,-,-⟩:=ih (.blockL []) (must E [123] (if isS E [123] s then (into (sT E s) (tk E s).at').2 else sT E s)) trivial (by simp only [rank];omega)
    rw [h2]
    have:=ms_must E [125] s2
    exact ⟨_,_,rfl,by rw [ms_out];omega,fun _=>⟨_,rfl⟩,fun hc=>by cases hc⟩
  | blockL ks =>
   simp only [rank] at h
   rw [run]
   have hs:=ms_sT E s
   by_cases hc:s.code = 0
   ·rw [if_neg (by simp [hc])]
    by_cases h1:isS E [125] s = true
    ·rw [if_pos h1]
     exact ⟨_,_,rfl,hs,fun hc=>(by cases hc),fun hc=>by cases hc⟩
    ·rw [if_neg h1]
     obtain ⟨x,s2,h2,h3,h4⟩:=(ih .stmt (sT E s) trivial (by simp only [rank];omega)).one rfl
     rw [h2]
     have hlt:ms E s2 < ms E s:=by
      by_cases hc2:(sT E s).code = 0
      ·have:=h4 rfl hc2;omega
      ·have h5:=ms_bad (E:=E) hc2
       have h6:=ms_ok (E:=E) hc
       omega
     obtain ⟨ks2,s3,h6,h7,-,-⟩:=ih (.blockL (ks ++ [x])) s2 trivial (by simp only [rank];omega)
     exact ⟨_,_,h6,by omega,fun hc=>(by cases hc),fun hc=>by cases hc⟩
   ·rw [if_pos hc]
    exact ⟨_,_,rfl,Nat.le_refl _,fun hc=>(by cases hc),fun hc=>by cases hc⟩
  | stmt =>
   simp only [rank] at h
   rw [run]
   by_cases h1:isW E [115,101,116] s = true
   ·rw [if_pos h1]
    have hi:=ms_inc (E:=E) (s:=s) (by rw [(isW_kind h1).1];decide)
    have hn:=ms_pName E (inc (sT E s))
    have hm:=ms_must E [61] (pName E (inc (sT E s))).2
    obtain ⟨x,s2,h2,h3,-⟩:=(ih (.bin 0) (must E [61] (pName E (inc (sT E s))).2) (by simp only [okJ];omega) (by simp only [rank];omega)).one rfl
    rw [h2]
    have:=ms_must E [59] s2
    exact ⟨_,_,rfl,by omega,fun _=>⟨_,rfl⟩,fun _ _=>by omega⟩
   ·rw [if_neg h1]
    by_cases h2:isW E [105,102] s = true
    ·rw [if_pos h2]
     have hi:=ms_inc (E:=E) (s:=s) (by rw [(isW_kind h2).1];decide)
     obtain ⟨x,s2,h3,h4,-⟩:=(ih (.bin 0) (inc (sT E s)) (by simp only [okJ];omega) (by simp only [rank];omega)).one rfl
     rw [h3]
     simp only
     obtain ⟨b,s3,h5,h6,-⟩:=(ih .block s2 trivial (by simp only [rank];omega)).one rfl
     rw [h5]
     simp only
     have hs3:=ms_sT E s3
     by_cases h7:isW E [101,108,115,101] s3 = true
     ·rw [if_pos h7]
      have hi3:=ms_inc (E:=E) (s:=s3) (by rw [(isW_kind h7).1];decide)
      obtain ⟨o,s4,h8,h9,-⟩:=(ih .block (inc (sT E s3)) trivial (by simp only [rank];omega)).one rfl
      rw [h8]
      exact ⟨_,_,rfl,by omega,fun _=>⟨_,rfl⟩,fun _ _=>by omega⟩
     ·rw [if_neg h7]
      exact ⟨_,_,rfl,by omega,fun _=>⟨_,rfl⟩,fun _ _=>by omega⟩
    ·rw [if_neg h2]
     by_cases h3:isW E [119,104,105,108,101] s = true
     ·rw [if_pos h3]
      have hi:=ms_inc (E:=E) (s:=s) (by rw [(isW_kind h3).1];decide)
      obtain ⟨x,s2,h4,h5,-⟩:=(ih (.bin 0) (inc (sT E s)) (by simp only [okJ];omega) (by simp only [rank];omega)).one rfl
      rw [h4]
      simp only
      obtain ⟨b,s3,h6,h7,-⟩:=(ih .block s2 trivial (by simp only [rank];omega)).one rfl
      rw [h6]
      exact ⟨_,_,rfl,by omega,fun _=>⟨_,rfl⟩,fun _ _=>by omega⟩
     ·rw [if_neg h3]
      by_cases h4:(isW E [100,111] s || isW E [102,97,105,108] s) = true
      ·rw [if_pos h4]
       have hk:(tk E s).kind ≠ 0:=by
        rcases Bool.or_eq_true_iff.1 h4 with h5 | h5
        ·rw [(isW_kind h5).1];decide
        ·rw [(isW_kind h5).1];decide
       have hi:=ms_inc (E:=E) hk
       obtain ⟨x,s2,h5,h6,-⟩:=(ih (.bin 0) (inc (sT E s)) (by simp only [okJ];omega) (by simp only [rank];omega)).one rfl
       rw [h5]
       have:=ms_must E [59] s2
       exact ⟨_,_,rfl,by omega,fun _=>⟨_,rfl⟩,fun _ _=>by omega⟩
      ·rw [if_neg h4]
       have hw:=ms_wrong E (sT E s)
       exact ⟨_,_,rfl,by omega,fun _=>⟨_,rfl⟩,fun _ hc=>by have:=ms_ok (E:=E) hc;omega⟩
def stmtsR (E:PE) (f:Nat):Nat → List Nd → PS → Option (List Nd × PS)
 | 0,_,_=>none
 | m + 1,ks,s=>if s.code ≠ 0 then some (ks,s) else if (tk E s).kind = 0 then some (ks,sT E s) else match run E f .stmt (sT E s) with
  | some ([x],s2)=>stmtsR E f m (ks ++ [x]) s2
  | _=>none
theorem stmts_ends (E:PE) (f:Nat) (m:Nat):∀ (ks:List Nd) (s:PS),ms E s < m → 16 * ms E s + 8 ≤ f → ∃ ks2 s2,stmtsR E f m ks s = some (ks ++ ks2,s2) ∧ ms E s2 ≤ ms E s:=by
 induction m with
 | zero=>intro ks s h;omega
 | succ m ih =>
  intro ks s h hf
  rw [stmtsR]
  have hs:=ms_sT E s
  by_cases hc:s.code = 0
  ·rw [if_neg (by simp [hc])]
   by_cases h1:(tk E s).kind = 0
   ·rw [if_pos h1]
    exact ⟨[],_,by rw [List.append_nil],hs⟩
   ·rw [if_neg h1,(tk_kind h1).2.2]
    obtain ⟨x,s2,h2,h3,h4⟩:=(run_ends E f .stmt s trivial (by simp only [rank];omega)).one rfl
    rw [h2]
    simp only
    have:=h4 rfl hc
    obtain ⟨ks2,s3,h5,h6⟩:=ih (ks ++ [x]) s2 (by omega) (by omega)
    exact ⟨x :: ks2,s3,by rw [h5,List.append_assoc];rfl,by omega⟩
  ·rw [if_pos hc]
   exact ⟨[],_,by rw [List.append_nil],Nat.le_refl _⟩
end Go.Proofs.YtmfpmandkhiknaaGreatDoor.par
namespace Go.Proofs.YtmfpmandkhiknaaGreatDoor.par
open Go Go.RowKit
open heap
def Nd.kids:Nd → List Nd
 | .mk _ _ _ ks _=>ks
def Nd.kind:Nd → Int
 | .mk k _ _ _ _=>k
def Nd.text:Nd → List UInt8
 | .mk _ t _ _ _=>t
def Nd.num:Nd → Nat
 | .mk _ _ n _ _=>n
def Nd.at':Nd → Int
 | .mk _ _ _ _ a=>a
def ndC (x:Nd) (c:Value):List Value := [.int .i64 x.kind,.string ⟨x.text.toArray⟩,.float .f64 x.num,c,.int .i64 x.at']
abbrev ndV (x:Nd) (c:Value):Value:=.agg #[.int .i64 x.kind,.string ⟨x.text.toArray⟩,.float .f64 x.num,c,.int .i64 x.at']
def rowC:List Nd → List Value → List Value
 | x :: xs,c :: cs=>ndC x c ++ rowC xs cs
 | _,_ => []
theorem rowC_snoc:∀ (xs:List Nd) (cs:List Value) (x:Nd) (c:Value),cs.length = xs.length → rowC (xs ++ [x]) (cs ++ [c]) = rowC xs cs ++ ndC x c
 | [],[],x,c,_=>by simp [rowC]
 | y :: ys,d :: ds,x,c,h=>by
  have:=rowC_snoc ys ds x c (by simpa using h)
  simp only [List.cons_append,rowC,this,List.append_assoc]
 | [],d :: ds,x,c,h=>by simp at h
 | y :: ys,[],x,c,h=>by simp at h
theorem rowC_get:∀ (xs:List Nd) (cs:List Value) (j:Nat) (x:Nd) (c:Value),xs[j]? = some x → cs[j]? = some c →
  (rowC xs cs)[j * 5]? = some (.int .i64 x.kind) ∧ (rowC xs cs)[j * 5 + 1]? = some (.string ⟨x.text.toArray⟩) ∧ (rowC xs cs)[j * 5 + 2]? = some (.float .f64 x.num) ∧ (rowC xs cs)[j * 5 + 3]? = some c ∧ (rowC xs cs)[j * 5 + 4]? = some (.int .i64 x.at')
 | [],cs,j,x,c,h,_=>by simp at h
 | y :: ys,[],j,x,c,_,h=>by simp at h
 | y :: ys,d :: ds,0,x,c,h1,h2=>by
  simp at h1 h2
  subst h1 h2
  exact ⟨rfl,rfl,rfl,rfl,rfl⟩
 | y :: ys,d :: ds,j + 1,x,c,h1,h2=>by
  have:=rowC_get ys ds j x c (by simpa using h1) (by simpa using h2)
  have l5:(ndC y d).length = 5:=rfl
  simp only [rowC]
  rw [List.getElem?_append_right (by rw [l5];omega),List.getElem?_append_right (by rw [l5];omega),List.getElem?_append_right (by rw [l5];omega),List.getElem?_append_right (by rw [l5];omega),List.getElem?_append_right (by rw [l5];omega),l5]
  rw [show (j + 1) * 5 - 5 = j * 5 by omega,show (j + 1) * 5 + 1 - 5 = j * 5 + 1 by omega,show (j + 1) * 5 + 2 - 5 = j * 5 + 2 by omega,show (j + 1) * 5 + 3 - 5 = j * 5 + 3 by omega,show (j + 1) * 5 + 4 - 5 = j * 5 + 4 by omega]
  exact this
def KV (T:TypeId) (w:World):Nat → List Nd → Value → List Nat → Prop
 | 0,_,_,_=>False
 | d + 1,xs,v,S=>∃ (cs:List Value) (Ss:List (List Nat)),cs.length = xs.length ∧ Ss.length = xs.length ∧ w.ownsRow 0 T 5 v xs.length (rowC xs cs) ∧ S = v.ownBlock.toList ++ Ss.flatten ∧ (∀ g ∈ v.ownBlock.toList,g ∉ Ss.flatten) ∧
   ∀ (i:Nat) (x:Nd) (c:Value) (s:List Nat),xs[i]? = some x → cs[i]? = some c → Ss[i]? = some s → KV T w d x.kids c s
theorem own_kept {T:TypeId} {w w':World} {base n:Nat} {v:Value} {l:List Value} (h:w.ownsRow base T 5 v n l) (hk:∀ g ∈ v.ownBlock.toList,w'.heap[g]? = w.heap[g]?):w'.ownsRow base T 5 v n l:=by
 obtain ⟨hl,h1 | ⟨g,c,cur,rfl,h2,h3,h4⟩⟩:=h
 ·exact ⟨hl,.inl h1⟩
 ·exact ⟨hl,.inr ⟨g,c,cur,rfl,h2,by rw [hk g (by simp [Value.ownBlock])];exact h3,h4⟩⟩
theorem KV.kept {T:TypeId} {w w':World}:∀ (d:Nat) {xs:List Nd} {v:Value} {S:List Nat},KV T w d xs v S → (∀ b ∈ S,w'.heap[b]? = w.heap[b]?) → KV T w' d xs v S
 | 0,_,_,_,h,_=>h.elim
 | d + 1,xs,v,S,h,hk=>by
  obtain ⟨cs,Ss,h1,h2,h3,rfl,h5,h6⟩:=h
  refine ⟨cs,Ss,h1,h2,own_kept h3 (fun g hg=>hk g (List.mem_append_left _ hg)),rfl,h5,fun i x c s hx hc hs => ?_⟩
  refine (h6 i x c s hx hc hs).kept d (fun b hb=>hk b (List.mem_append_right _ ?_))
  exact List.mem_flatten.2 ⟨s,List.mem_of_getElem? hs,hb⟩
theorem KV.lt {T:TypeId} {w:World}:∀ (d:Nat) {xs:List Nd} {v:Value} {S:List Nat},KV T w d xs v S → ∀ b ∈ S,b < w.heap.size
 | 0,_,_,_,h,_,_=>h.elim
 | d + 1,xs,v,S,h,b,hb=>by
  obtain ⟨cs,Ss,h1,h2,h3,rfl,h5,h6⟩:=h
  rcases List.mem_append.1 hb with hb | hb
  ·exact (World.ownsRow.lt h3 b (by simpa using hb)).2
  ·obtain ⟨s,hs,hbs⟩:=List.mem_flatten.1 hb
   obtain ⟨i,hi,rfl⟩:=List.getElem_of_mem hs
   have hix:i < xs.length:=by omega
   have hic:i < cs.length:=by omega
   exact KV.lt d (h6 i _ _ _ (List.getElem?_eq_getElem hix) (List.getElem?_eq_getElem hic) (List.getElem?_eq_getElem hi)) b hbs
theorem KV.below {T:TypeId} {w w':World} {d:Nat} {xs:List Nd} {v:Value} {S:List Nat} (h:KV T w d xs v S) (hb:Below w.heap.size w w'):KV T w' d xs v S:=h.kept d (fun b hm=>hb.block b (h.lt d b hm))
theorem KV.turned {T:TypeId} {w w':World} {d:Nat} {R:List Nat} {xs:List Nd} {v:Value} {S:List Nat} (h:KV T w d xs v S) (ht:Turned R w w') (hd:∀ b ∈ S,b ∉ R):KV T w' d xs v S:=h.kept d (fun b hm=>ht.block b (h.lt d b hm) (hd b hm))
theorem KV.more {T:TypeId} {w:World}:∀ (d:Nat) {xs:List Nd} {v:Value} {S:List Nat},KV T w d xs v S → KV T w (d + 1) xs v S
 | 0,_,_,_,h=>h.elim
 | d + 1,xs,v,S,h=>by
  obtain ⟨cs,Ss,h1,h2,h3,h4,h5,h6⟩:=h
  exact ⟨cs,Ss,h1,h2,h3,h4,h5,fun i x c s hx hc hs=>KV.more d (h6 i x c s hx hc hs)⟩
theorem KV.upto {T:TypeId} {w:World} {d e:Nat} (hde:d ≤ e) {xs:List Nd} {v:Value} {S:List Nat} (h:KV T w d xs v S):KV T w e xs v S:=by
 induction hde with
 | refl=>exact h
 | step _ ih=>exact KV.more _ ih
theorem KV.nil (T:TypeId) (w:World) (d:Nat):KV T w (d + 1) [] (.slice none 0 0) []:=
 ⟨[],[],rfl,rfl,World.ownsRow_nil _ _ _ _,rfl,fun g hg=>by simp [Value.ownBlock] at hg,fun i x c s hx=>by simp at hx⟩
theorem KV.slice {T:TypeId} {w:World}:∀ (d:Nat) {xs:List Nd} {v:Value} {S:List Nat},KV T w d xs v S → ∃ a c,v = .slice a xs.length c
 | 0,_,_,_,h=>h.elim
 | d + 1,xs,v,S,h=>by
  obtain ⟨cs,Ss,h1,h2,⟨_,⟨h,h0⟩ | ⟨_,_,_,h,_⟩⟩,_⟩:=h
  ·exact ⟨none,0,by rw [h,h0]⟩
  ·exact ⟨_,_,h⟩
theorem KV.kid {T:TypeId} {w:World} {d:Nat} {xs:List Nd} {a:Option Addr} {n cp:Nat} {S:List Nat} (h:KV T w (d + 1) xs (.slice a n cp) S) {i:Nat} {x:Nd} (hx:xs[i]? = some x) :
  ∃ g c s,a = some ⟨g,0,none⟩ ∧ n = xs.length ∧ g < w.heap.size ∧ xs.length ≤ cp ∧ cp ≤ maxLen ∧ w.cell? ⟨g,i * 5,none⟩ = some (.int .i64 x.kind) ∧ w.cell? ⟨g,i * 5 + 1,none⟩ = some (.string ⟨x.text.toArray⟩) ∧ w.cell? ⟨g,i * 5 + 2,none⟩ = some (.float .f64 x.num) ∧
   w.cell? ⟨g,i * 5 + 3,none⟩ = some c ∧ w.cell? ⟨g,i * 5 + 4,none⟩ = some (.int .i64 x.at') ∧ KV T w d x.kids c s ∧ ∀ b ∈ s,b ∈ S:=by
 obtain ⟨cs,Ss,h1,h2,h3,rfl,h5,h6⟩:=h
 have hix:=(List.getElem?_eq_some_iff.1 hx).1
 have hic:i < cs.length:=by omega
 have his:i < Ss.length:=by omega
 have hkid:=h6 i x _ _ hx (List.getElem?_eq_getElem hic) (List.getElem?_eq_getElem his)
 have hget:=rowC_get xs cs i x _ hx (List.getElem?_eq_getElem hic)
 have hlt:=World.ownsRow.lt h3
 have hcl := @World.ownsRow.cells _ _ _ _ _ _ _ h3
 obtain ⟨_,⟨hv,h0⟩ | ⟨g,c,cur,hv,_,_,hc1,hc2,_⟩⟩:=h3
 ·omega
 ·simp only [Value.slice.injEq] at hv
  obtain ⟨rfl,rfl,rfl⟩:=hv
  have add0:∀ j,(⟨g,0,none⟩:Addr).add j = ⟨g,j,none⟩:=fun j=>by unfold Addr.add;split <;> simp_all
  have k0:=hcl (g:=g) rfl _ _ hget.1
  have k1:=hcl (g:=g) rfl _ _ hget.2.1
  have k2:=hcl (g:=g) rfl _ _ hget.2.2.1
  have k3:=hcl (g:=g) rfl _ _ hget.2.2.2.1
  have k4:=hcl (g:=g) rfl _ _ hget.2.2.2.2
  rw [add0] at k0 k1 k2 k3 k4
  exact ⟨g,_,_,rfl,rfl,(hlt g rfl).2,hc1,hc2,k0,k1,k2,k3,k4,hkid,fun b hb=>List.mem_append_right _ (List.mem_flatten.2 ⟨_,List.getElem_mem his,hb⟩)⟩
theorem KV.snoc {T:TypeId} {w w2:World} {d:Nat} {xs:List Nd} {v v2:Value} {S:List Nat} {x:Nd} {c:Value} {s:List Nat} (h:KV T w (d + 1) xs v S) (hx:KV T w d x.kids c s)
  (ht:Turned v.ownBlock.toList w w2) (hs:∀ b ∈ s,b ∉ v.ownBlock.toList) (hv:v2.ownBlock = v.ownBlock ∨ v2.ownBlock = some w.heap.size)
  (hrow:∀ l,w.ownsRow 0 T 5 v xs.length l → w2.ownsRow 0 T 5 v2 (xs.length + 1) (l ++ ndC x c)):∃ S2,KV T w2 (d + 1) (xs ++ [x]) v2 S2 ∧ ∀ b ∈ S2,b ∈ S ∨ b ∈ s ∨ b = w.heap.size:=by
 have hlt:=KV.lt (d + 1) h
 have hls:=KV.lt d hx
 obtain ⟨cs,Ss,h1,h2,h3,rfl,h5,h6⟩:=h
 refine ⟨v2.ownBlock.toList ++ (Ss ++ [s]).flatten,⟨cs ++ [c],Ss ++ [s],by simp [h1],by simp [h2],?_,rfl,?_,?_⟩,?_⟩
 ·rw [List.length_append,rowC_snoc xs cs x c h1]
  exact hrow _ h3
 ·intro g hg hm
  rw [List.flatten_append] at hm
  simp only [List.flatten_cons,List.flatten_nil,List.append_nil] at hm
  rcases hv with hv | hv
  ·rw [hv] at hg
   rcases List.mem_append.1 hm with hm | hm
   ·exact h5 g hg hm
   ·exact hs g hm hg
  ·rw [hv] at hg
   have:g = w.heap.size:=by simpa using hg
   subst this
   rcases List.mem_append.1 hm with hm | hm
   ·have:=hlt _ (List.mem_append_right _ hm);omega
   ·have:=hls _ hm;omega
 ·intro i y e q hy he hq
  by_cases hi:i < xs.length
  ·rw [List.getElem?_append_left hi] at hy
   rw [List.getElem?_append_left (by omega)] at he hq
   refine (h6 i y e q hy he hq).turned ht (fun b hb hm => ?_)
   exact h5 b hm (List.mem_flatten.2 ⟨q,List.mem_of_getElem? hq,hb⟩)
  ·have hi2:i = xs.length:=by
    have:=(List.getElem?_eq_some_iff.1 hy).1
    simp at this;omega
   subst hi2
   rw [List.getElem?_append_right (Nat.le_refl _),Nat.sub_self] at hy
   rw [List.getElem?_append_right (by omega),h1,Nat.sub_self] at he
   rw [List.getElem?_append_right (by omega),h2,Nat.sub_self] at hq
   simp at hy he hq
   subst hy he hq
   exact hx.turned ht hs
 ·intro b hb
  rcases List.mem_append.1 hb with hb | hb
  ·rcases hv with hv | hv
   ·rw [hv] at hb
    exact .inl (List.mem_append_left _ hb)
   ·rw [hv] at hb
    exact .inr (.inr (by simpa using hb))
  ·rw [List.flatten_append] at hb
   simp only [List.flatten_cons,List.flatten_nil,List.append_nil] at hb
   rcases List.mem_append.1 hb with hb | hb
   ·exact .inl (List.mem_append_right _ hb)
   ·exact .inr (.inl hb)
end Go.Proofs.YtmfpmandkhiknaaGreatDoor.par
namespace Go.Proofs.YtmfpmandkhiknaaGreatDoor.par
open Go Go.RowKit
open lex (Tk)
def numW (n:Nat):Nat:=if n < 18446744073709551616 then 1 else 1000000000
mutual
def wt:Nd → Nat
 | .mk k t n ks a=>numW n + wtL ks
def wtL:List Nd → Nat
 | []=>0
 | x :: r=>wt x + wtL r
end
theorem wtL_app (l r:List Nd):wtL (l ++ r) = wtL l + wtL r:=by
 induction l with
 | nil=>simp [wtL]
 | cons x l ih=>simp [wtL,ih,Nat.add_assoc]
theorem wtL_one (x:Nd):wtL [x] = wt x:=by simp [wtL]
theorem wt_kids (x:Nd):wtL x.kids ≤ wt x:=by
 cases x;rw [wt];exact Nat.le_add_left _ _
theorem wt_no {k:Int} {t:List UInt8} {n:Nat} {ks:List Nd} {a:Int} (h:n < 18446744073709551616):wt (.mk k t n ks a) = 1 + wtL ks:=by
 rw [wt,numW,if_pos h]
def jobW:Job → Nat
 | .binL _ x=>wt x
 | .args ks=>wtL ks
 | .blockL ks=>wtL ks
 | _=>0
theorem wt_zero:wtL [zero] = 1:=by decide
def slk (E:PE) (s:PS):Job → Nat
 | .binL _ _=>0
 | .args _=>0
 | .blockL _=>0
 | _=>1 - ms E s
theorem tk_num {E:PE} (hE:∀ t ∈ E.ts,t.num < 18446744073709551616) (s:PS):(tk E s).num < 18446744073709551616:=by
 unfold tk pT
 split
 ·exact (by decide:(0:Nat) < 18446744073709551616)
 ·split
  ·rename_i t h
   exact hE t (List.mem_of_getElem? h)
  ·exact (by decide:(0:Nat) < 18446744073709551616)
theorem into_bad {s:PS} {a:Int} (E:PE) (h:¬ (into s a).1 = true):ms E (into s a).2 = 0:=by
 unfold into at h ⊢
 split at h
 ·rename_i h1
  rw [if_pos h1]
  exact ms_bad (flt_code _ _ _ (by decide))
 ·exact absurd rfl h
theorem must_into {E:PE} {g:List UInt8} {s:PS} {a:Int} (h:isS E g s = true) (hi:(into s a).1 = true):ms E (must E g (into s a).2) < ms E s:=by
 have hk:(tk E s).kind ≠ 0:=by rw [(isS_kind h).1];decide
 obtain ⟨hc,hl,hs⟩:=tk_kind hk
 have e:(into s a).2 = { s with deep:=wrap64 (s.deep + 1) }:=by
  unfold into at hi ⊢
  split
  ·rename_i hd
   rw [if_pos hd] at hi
   cases hi
  ·rfl
 rw [e]
 have ht:∃ t,E.ts[s.i]? = some t:=⟨_,List.getElem?_eq_getElem hl⟩
 obtain ⟨t,ht⟩:=ht
 have p1:=pT_ok hc ht
 have p2:=pT_ok (s:={ s with deep:=wrap64 (s.deep + 1) }) hc ht
 have hk2:tk E { s with deep:=wrap64 (s.deep + 1) } = tk E s:=by unfold tk;rw [p1,p2]
 have hS:isS E g { s with deep:=wrap64 (s.deep + 1) } = true:=by unfold isS at h ⊢;rw [hk2];exact h
 unfold must
 rw [if_pos hS]
 have:=ms_inc (E:=E) (s:={ s with deep:=wrap64 (s.deep + 1) }) (by rw [hk2];exact hk)
 exact this
theorem run_wt (E:PE) (hE:∀ t ∈ E.ts,t.num < 18446744073709551616) (f:Nat):∀ (j:Job) (s:PS) (ks:List Nd) (s2:PS),run E f j s = some (ks,s2) → wtL ks + 4 * ms E s2 ≤ jobW j + 4 * ms E s + slk E s j:=by
 induction f with
 | zero=>intro j s ks s2 hr;cases j <;> cases hr
 | succ f ih =>
  intro j s ks s2 hr
  have hs:=ms_sT E s
  have hz:=wt_zero
  cases j with
  | bin l =>
   rw [run] at hr
   split at hr
   ·have h2:=ih _ _ _ _ hr
    exact h2
   ·split at hr
    ·rename_i x s3 h1
     have h2:=ih _ _ _ _ h1
     have h3:=ih _ _ _ _ hr
     simp only [jobW,slk,wtL_one] at h2 h3 ⊢
     omega
    ·cases hr
  | binL l x =>
   rw [run] at hr
   simp only [jobW,slk]
   split at hr
   ·cases hr;rw [wtL_one];exact Nat.le_refl _
   ·split at hr
    ·rename_i ha
     have hi:=ms_inc (E:=E) (s:=s) (by rw [isAny_kind ha];decide)
     split at hr
     ·rename_i y s3 h1
      have h2:=ih _ _ _ _ h1
      have h4:wt (.mk 18 (tk E s).text 0 [x,y] (tk E s).at') = 1 + (wt x + wt y):=by rw [wt_no (by decide)];simp [wtL]
      simp only [jobW,slk,wtL_one] at h2
      split at hr
      ·cases hr;rw [wtL_one,h4];omega
      ·have h3:=ih _ _ _ _ hr
       simp only [jobW,slk] at h3
       rw [h4] at h3
       omega
     ·cases hr
    ·cases hr;rw [wtL_one];omega
  | unary =>
   rw [run] at hr
   simp only [jobW,slk]
   split at hr
   ·rename_i ha
    have hk:(tk E s).kind ≠ 0:=by
     rcases Bool.or_eq_true_iff.1 ha with h1 | h1
     ·rw [(isS_kind h1).1];decide
     ·rw [(isS_kind h1).1];decide
    have hi:=ms_inc (E:=E) hk
    have hs2:=ms_sT E (inc (sT E s))
    have hin:=ms_into E (sT E (inc (sT E s))) (tk E (inc (sT E s))).at'
    split at hr
    ·split at hr
     ·split at hr
      ·rename_i x s3 h1
       cases hr
       have h2:=ih _ _ _ _ h1
       simp only [jobW,slk,wtL_one] at h2
       rw [wtL_one,wt_no (by decide),wtL_one,ms_out]
       omega
      ·cases hr
     ·cases hr;omega
    ·cases hr;rw [ms_wrong];omega
   ·have h2:=ih _ _ _ _ hr
    simp only [jobW,slk] at h2
    omega
  | inner =>
   rw [run] at hr
   simp only [jobW,slk]
   have hin:=ms_into E (sT E s) (tk E s).at'
   split at hr
   ·split at hr
    ·split at hr
     ·rename_i x s3 h1
      cases hr
      have h2:=ih _ _ _ _ h1
      simp only [jobW,slk,wtL_one] at h2
      rw [wtL_one,ms_out]
      omega
     ·cases hr
    ·rename_i hin2
     have:=into_bad E hin2
     cases hr;omega
   ·cases hr;rw [ms_wrong];omega
  | primary =>
   rw [run] at hr
   simp only [jobW,slk]
   split at hr
   ·rename_i h2
    have hi:=ms_inc (E:=E) (s:=s) (by rw [h2];decide)
    cases hr;rw [wtL_one,wt_no (tk_num hE s),wtL];omega
   ·split at hr
    ·rename_i h3
     have hi:=ms_inc (E:=E) (s:=s) (by rw [h3];decide)
     cases hr;rw [wtL_one,wt_no (by decide),wtL];omega
    ·split at hr
     ·rename_i h4
      have hi:=ms_inc (E:=E) (s:=s) (by rw [(isS_kind h4).1];decide)
      split at hr
      ·rename_i x s3 h1
       cases hr
       have h2:=ih _ _ _ _ h1
       have h5:=ms_must E [41] s3
       simp only [jobW,slk,wtL_one] at h2
       rw [wtL_one]
       omega
      ·cases hr
     ·split at hr
      ·rename_i h5
       have hi:=ms_inc (E:=E) (s:=s) (by rw [h5.1];decide)
       have hi2:ms E (two E s) ≤ ms E (inc (sT E s)):=ms_i rfl (by show (sT E s).i + 1 ≤ s.i + 2;rw [sT_i];omega)
       split at hr
       ·rename_i qs s3 h1
        cases hr
        have h2:=ih _ _ _ _ h1
        have h6:=ms_must E [41] s3
        simp only [jobW,slk,wtL] at h2
        rw [wtL_one,wt_no (by decide)]
        omega
       ·cases hr
      ·split at hr
       ·rename_i h6
        have hi:=ms_inc (E:=E) (s:=s) (by rw [h6.1];decide)
        cases hr;rw [wtL_one,wt_no (by decide),wtL];omega
       ·cases hr;rw [ms_wrong];omega
  | args qs =>
   rw [run] at hr
   simp only [jobW,slk]
   split at hr
   ·cases hr;omega
   ·split at hr
    ·rename_i hnot _ x s3 h1
     have h2:=ih _ _ _ _ h1
     simp only [jobW,slk,wtL_one] at h2
     have hg:=ms_ok (E:=E) (s:=sT E s) (Classical.byContradiction fun hc=>hnot (by simp [hc]))
     have hs3:=ms_sT E s3
     split at hr
     ·rename_i h4
      have hi:=ms_inc (E:=E) (s:=s3) (by rw [(isS_kind h4).1];decide)
      have hs4:=ms_sT E (inc (sT E s3))
      split at hr
      ·have h3:=ih _ _ _ _ hr
       simp only [jobW,slk,wtL_app,wtL_one,ms_wrong] at h3
       omega
      ·have h3:=ih _ _ _ _ hr
       simp only [jobW,slk,wtL_app,wtL_one] at h3
       omega
     ·cases hr
      rw [wtL_app,wtL_one]
      omega
    ·cases hr
  | block =>
   rw [run] at hr
   simp only [jobW,slk]
   have hin:=ms_into E (sT E s) (tk E s).at'
   split at hr
   ·rename_i h1
    have:=into_bad (a:=(tk E s).at') (s:=sT E s) E (by rw [h1.2];decide)
    cases hr;omega
   ·rename_i h1
    have hm:ms E (must E [123] (if isS E [123] s then (into (sT E s) (tk E s).at').2 else sT E s)) ≤ ms E s - 1:=by
     cases h:isS E [123] s with
     | true =>
      rw [if_pos rfl]
      have:=must_into (a:=(tk E s).at') (by rw [isS_sT];exact h) (Classical.byContradiction fun hc=>h1 ⟨h,by simpa using hc⟩:(into (sT E s) (tk E s).at').1 = true)
      omega
     | false =>
      rw [if_neg (by simp),must,isS_sT,h,if_neg (by simp),ms_wrong]
      exact Nat.zero_le _
    split at hr
    ·rename_i qs s3 h1
     cases hr
     have h2:=ih _ _ _ _ h1
     have h6:=ms_must E [125] s3
     simp only [jobW,slk,wtL] at h2
     rw [wtL_one,wt_no (by decide),ms_out]
     omega
    ·cases hr
  | blockL qs =>
   rw [run] at hr
   simp only [jobW,slk]
   split at hr
   ·cases hr;exact Nat.le_refl _
   ·split at hr
    ·cases hr;omega
    ·split at hr
     ·rename_i hsc _ _ x s3 h1
      have hg:=ms_ok (E:=E) (s:=s) (Classical.byContradiction fun hc=>hsc hc)
      have h2:=ih _ _ _ _ h1
      have h3:=ih _ _ _ _ hr
      simp only [jobW,slk,wtL_app,wtL_one] at h2 h3
      omega
     ·cases hr
  | stmt =>
   rw [run] at hr
   simp only [jobW,slk]
   split at hr
   ·rename_i h1
    have hi:=ms_inc (E:=E) (s:=s) (by rw [(isW_kind h1).1];decide)
    have hn:=ms_pName E (inc (sT E s))
    have hm:=ms_must E [61] (pName E (inc (sT E s))).2
    split at hr
    ·rename_i x s3 h2
     cases hr
     have h3:=ih _ _ _ _ h2
     have h4:=ms_must E [59] s3
     simp only [jobW,slk,wtL_one] at h3
     rw [wtL_one,wt_no (by decide),wtL_one]
     omega
    ·cases hr
   ·split at hr
    ·rename_i h2
     have hi:=ms_inc (E:=E) (s:=s) (by rw [(isW_kind h2).1];decide)
     split at hr
     ·rename_i c s3 h3
      have hc:=ih _ _ _ _ h3
      simp only [jobW,slk,wtL_one] at hc
      split at hr
      ·rename_i b s4 h4
       have hb:=ih _ _ _ _ h4
       simp only [jobW,slk,wtL_one] at hb
       have hs4:=ms_sT E s4
       split at hr
       ·rename_i h5
        have hi4:=ms_inc (E:=E) (s:=s4) (by rw [(isW_kind h5).1];decide)
        split at hr
        ·rename_i o s5 h6
         have ho:=ih _ _ _ _ h6
         simp only [jobW,slk,wtL_one] at ho
         cases hr
         rw [wtL_one,wt_no (by decide)]
         simp only [wtL]
         omega
        ·cases hr
       ·cases hr
        rw [wtL_one,wt_no (by decide)]
        simp only [wtL]
        rw [wt_no (by decide),wtL]
        omega
      ·cases hr
     ·cases hr
    ·split at hr
     ·rename_i h2
      have hi:=ms_inc (E:=E) (s:=s) (by rw [(isW_kind h2).1];decide)
      split at hr
      ·rename_i c s3 h3
       have hc:=ih _ _ _ _ h3
       simp only [jobW,slk,wtL_one] at hc
       split at hr
       ·rename_i b s4 h4
        have hb:=ih _ _ _ _ h4
        simp only [jobW,slk,wtL_one] at hb
        cases hr
        rw [wtL_one,wt_no (by decide)]
        simp only [wtL]
        omega
       ·cases hr
      ·cases hr
     ·split at hr
      ·rename_i h4
       have hk:(tk E s).kind ≠ 0:=by
        rcases Bool.or_eq_true_iff.1 h4 with h5 | h5
        ·rw [(isW_kind h5).1];decide
        ·rw [(isW_kind h5).1];decide
       have hi:=ms_inc (E:=E) hk
       split at hr
       ·rename_i x s3 h2
        have h3:=ih _ _ _ _ h2
        have h6:=ms_must E [59] s3
        simp only [jobW,slk,wtL_one] at h3
        cases hr
        rw [wtL_one,wt_no (by decide),wtL_one]
        omega
       ·cases hr
      ·cases hr
       rw [wtL_one,wt_no (by decide),wtL,ms_wrong]
       omega
theorem stmts_wt (E:PE) (hE:∀ t ∈ E.ts,t.num < 18446744073709551616) (f m:Nat):∀ (qs ks:List Nd) (s s2:PS),stmtsR E f m qs s = some (ks,s2) → wtL ks + 4 * ms E s2 ≤ wtL qs + 4 * ms E s:=by
 induction m with
 | zero=>intro qs ks s s2 hr;cases hr
 | succ m ih =>
  intro qs ks s s2 hr
  rw [stmtsR] at hr
  have hs:=ms_sT E s
  split at hr
  ·cases hr;exact Nat.le_refl _
  ·split at hr
   ·cases hr;omega
   ·split at hr
    ·rename_i hsc _ _ x s3 h1
     have hg:=ms_ok (E:=E) (s:=s) (Classical.byContradiction fun hc=>hsc hc)
     have h2:=run_wt E hE f _ _ _ _ h1
     have h3:=ih _ _ _ _ hr
     simp only [jobW,slk,wtL_app,wtL_one] at h2 h3
     omega
    ·cases hr
theorem wt_num {k:Int} {t:List UInt8} {n:Nat} {ks:List Nd} {a:Int} (h:wt (.mk k t n ks a) < 1000000000):n < 18446744073709551616:=by
 rw [wt] at h
 unfold numW at h
 split at h
 ·assumption
 ·omega
end Go.Proofs.YtmfpmandkhiknaaGreatDoor.par
