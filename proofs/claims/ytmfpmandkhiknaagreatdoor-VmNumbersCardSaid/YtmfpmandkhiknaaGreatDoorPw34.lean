/-
  Proved: the document's maker of code: what it lays for a tree, and that all it lays may be (plain). Conditions: as each theorem says. No program is in sight.
  Proved: how much the document's maker of code lays at most (plain). Conditions: as each theorem says. No program is in sight.
-/
import Derived.Test.YtmfpmandkhiknaaGreatDoorPw9
import Derived.Test.YtmfpmandkhiknaaGreatDoorPw31
import Derived.Test.YtmfpmandkhiknaaGreatDoorPw6
set_option linter.unusedVariables false
set_option linter.unusedSimpArgs false
namespace Go.Proofs.YtmfpmandkhiknaaGreatDoor.vmm
open Go Go.RowKit Ieee
open flt
open par (Nd wt wtL)
open chk (Nm)
open many (fnT)
structure MS where
 code:List Ins
 slots:List Nm
 bad:Bool
def MS.put (m:MS) (i:Ins):MS:={ m with code:=m.code ++ [i] }
def MS.flaw (m:MS) (b:Bool):MS:={ m with bad:=m.bad || b }
def slotOf (l:List Nm) (s:Nm):Int:=match l.findIdx? (· == s) with
 | some i=>i
 | none => -1
def opL:List (Nm × Int) := [([43],7),([45],8),([42],9),([47],10),([37],11),([38],12),([61,61],13),([60],14)]
def opOf (s:Nm):Int:=match opL.find? (fun x=>x.1 == s) with
 | some x=>x.2
 | none => -1
def setArg (c:List Ins) (k:Nat) (v:Int):List Ins:=c.modify k (fun i => { i with arg:=v })
def MS.land (m:MS) (k:Nat):MS:={ m with code:=setArg m.code k m.code.length }
def kidsE (k:Int):Option Nat:=if k = 15 ∨ k = 16 ∨ k = 14 then some 0 else if k = 17 then some 1 else if k = 18 then some 2 else none
def kidsS (k:Int):Option Nat:=if k = 9 ∨ k = 12 ∨ k = 13 then some 1 else if k = 10 then some 3 else if k = 11 then some 2 else none
def finE (k:Int) (t:Nm) (n:Nat) (many:Nat) (m:MS):MS:=
 if k = 15 then m.put ⟨1,0,n,[]⟩
 else if k = 16 then m.put ⟨2,0,0,t⟩
 else if k = 14 then (m.flaw (slotOf m.slots t < 0)).put ⟨3,slotOf m.slots t,0,[]⟩
 else if k = 17 then (m.flaw (t != [33] && t != [45])).put ⟨if t = [33] then 6 else 5,0,0,[]⟩
 else if k = 18 then (m.flaw (opOf t < 0)).put ⟨opOf t,0,0,[]⟩
 else (m.flaw (fnT t != some (many:Int))).put ⟨17,many,0,t⟩
def fitE (k:Int) (many:Nat):Bool:=k == 19 || kidsE k == some many
mutual
def exprC:Nd → MS → MS
 | .mk k t n ks a,m=>if fitE k ks.length then finE k t n ks.length (exprsC ks m) else { m with bad:=true }
def exprsC:List Nd → MS → MS
 | [],m=>m
 | x :: r,m=>exprsC r (exprC x m)
end
def setS (t:Nm) (m:MS):MS:=if slotOf m.slots t < 0 then { m with slots:=m.slots ++ [t] } else m
mutual
def blockC:Nd → MS → MS
 | .mk k t n ks a,m=>if k = 8 then stmtsC ks m else { m with bad:=true }
def stmtsC:List Nd → MS → MS
 | [],m=>m
 | x :: r,m=>stmtsC r (stmtC x m)
def stmtC:Nd → MS → MS
 | .mk k t n [x] a,m =>
  if k = 9 then (setS t (exprC x m)).put ⟨4,slotOf (setS t (exprC x m)).slots t,0,[]⟩
  else if k = 12 then (exprC x m).put ⟨18,0,0,[]⟩
  else if k = 13 then (exprC x m).put ⟨19,0,0,[]⟩
  else { m with bad:=true }
 | .mk k t n [x,y] a,m =>
  if k = 11 then ((blockC y ((exprC x m).put ⟨16,0,0,[]⟩)).put ⟨15,m.code.length,0,[]⟩).land (exprC x m).code.length
  else { m with bad:=true }
 | .mk k t n [x,y,z] a,m =>
  if k = 10 then
   (if z.kind = 0 ∧ z.kids = [] then (blockC y ((exprC x m).put ⟨16,0,0,[]⟩)).land (exprC x m).code.length
   else (blockC z (((blockC y ((exprC x m).put ⟨16,0,0,[]⟩)).put ⟨15,0,0,[]⟩).land (exprC x m).code.length)).land (blockC y ((exprC x m).put ⟨16,0,0,[]⟩)).code.length)
  else { m with bad:=true }
 | .mk _ _ _ _ _,m => { m with bad:=true }
end
def startC:MS:=⟨[],[],false⟩
def codeM (x:Nd):MS:=(blockC x startC).put ⟨0,0,0,[]⟩
def codeC (x:Nd):Option (List Ins):=if (codeM x).bad = true ∨ 64 < (codeM x).slots.length then none else some (codeM x).code
/-! all that is laid may be -/
def mayI (i:Ins) (ns nc:Nat):Prop:=(i.op = 3 ∨ i.op = 4 → 0 ≤ i.arg ∧ i.arg < ns) ∧ (i.op = 15 ∨ i.op = 16 → 0 ≤ i.arg ∧ i.arg ≤ nc) ∧ (i.op = 17 → fnT i.text = some i.arg) ∧ 0 ≤ i.op ∧ i.op ≤ 19
theorem mayI.grow {i:Ins} {ns nc ns' nc':Nat} (h:mayI i ns nc) (h1:ns ≤ ns') (h2:nc ≤ nc'):mayI i ns' nc':=
 ⟨fun e=>⟨(h.1 e).1,by have:=(h.1 e).2;omega⟩,fun e=>⟨(h.2.1 e).1,by have:=(h.2.1 e).2;omega⟩,h.2.2⟩
def OkM (m:MS):Prop:=m.bad = true ∨ ∀ i ∈ m.code,mayI i m.slots.length m.code.length
structure Gro (m m':MS):Prop where
 bad:m.bad = true → m'.bad = true
 ops:∃ r,m'.code.map (·.op) = m.code.map (·.op) ++ r
theorem Gro.refl (m:MS):Gro m m:=⟨id,[],by simp⟩
theorem Gro.trans {a b c:MS} (h:Gro a b) (k:Gro b c):Gro a c:=by
 obtain ⟨r,hr⟩:=h.ops
 obtain ⟨q,hq⟩:=k.ops
 exact ⟨fun e=>k.bad (h.bad e),r ++ q,by rw [hq,hr,List.append_assoc]⟩
theorem Gro.len {a b:MS} (h:Gro a b):a.code.length ≤ b.code.length:=by
 obtain ⟨r,hr⟩:=h.ops
 have:=congrArg List.length hr
 simp at this
 omega
theorem Gro.op {a b:MS} (h:Gro a b) {k:Nat} {o:Int} (hk:(a.code.map (·.op))[k]? = some o):(b.code.map (·.op))[k]? = some o:=by
 obtain ⟨r,hr⟩:=h.ops
 rw [hr,List.getElem?_append_left (List.getElem?_eq_some_iff.1 hk).1]
 exact hk
theorem gro_put (m:MS) (i:Ins):Gro m (m.put i):=⟨id,[i.op],by simp [MS.put]⟩
theorem gro_flaw (m:MS) (b:Bool):Gro m (m.flaw b):=⟨fun h=>by simp [MS.flaw,h],[],by simp [MS.flaw]⟩
theorem gro_bad (m:MS):Gro m { m with bad:=true }:=⟨fun _=>rfl,[],by simp⟩
theorem ops_set (c:List Ins) (k:Nat) (v:Int):(setArg c k v).map (·.op) = c.map (·.op):=by
 unfold setArg
 induction c generalizing k with
 | nil=>simp
 | cons x c ih=>cases k <;> simp_all
theorem gro_land (m:MS) (k:Nat):Gro m (m.land k):=⟨id,[],by simp [MS.land,ops_set]⟩
theorem gro_setS (t:Nm) (m:MS):Gro m (setS t m):=by
 unfold setS
 split
 ·exact ⟨id,[],by simp⟩
 ·exact Gro.refl _
theorem okM_put {m:MS} {i:Ins} (h:OkM m) (hi:m.bad = true ∨ mayI i m.slots.length (m.code.length + 1)):OkM (m.put i):=by
 rcases h with h | h
 ·exact .inl h
 rcases hi with hi | hi
 ·exact .inl hi
 refine .inr fun x hx => ?_
 have hl:(m.put i).code.length = m.code.length + 1:=by simp [MS.put]
 rw [hl]
 rcases List.mem_append.1 (show x ∈ m.code ++ [i] from hx) with e | e
 ·exact (h x e).grow (Nat.le_refl _) (Nat.le_succ _)
 ·rw [List.mem_singleton.1 e];exact hi
theorem okM_flaw {m:MS} (h:OkM m) (b:Bool):OkM (m.flaw b):=by
 rcases h with h | h
 ·exact .inl (by simp [MS.flaw,h])
 ·exact .inr h
theorem flaw_bad {m:MS} {b:Bool} (h:b = true):(m.flaw b).bad = true:=by simp [MS.flaw,h]
theorem okM_land {m:MS} {k:Nat} {o:Int} (h:OkM m) (hk:(m.code.map (·.op))[k]? = some o) (ho:o = 15 ∨ o = 16):OkM (m.land k):=by
 rcases h with h | h
 ·exact .inl h
 refine .inr fun x hx => ?_
 have hl:(m.land k).code.length = m.code.length:=by simp [MS.land,setArg]
 rw [hl]
 show mayI x m.slots.length _
 obtain ⟨j,hj,rfl⟩:=List.getElem_of_mem hx
 have e:(m.land k).code[j] = if k = j then { m.code[j]'(by rw [← hl];exact hj) with arg:=m.code.length } else m.code[j]'(by rw [← hl];exact hj):=by
  simp only [MS.land,setArg]
  rw [List.getElem_modify]
 rw [e]
 have hm:=h _ (List.getElem_mem (by rw [← hl];exact hj:j < m.code.length))
 split
 ·rename_i hkj
  subst hkj
  have hop:(m.code[k]'(by rw [← hl];exact hj)).op = o:=by
   rw [List.getElem?_map,List.getElem?_eq_getElem (by rw [← hl];exact hj)] at hk
   exact Option.some.inj hk
  refine ⟨fun h3 => ?_,fun _=>⟨by simp,by simp⟩,fun h17 => ?_,hm.2.2.2⟩
  ·simp only at h3
   rw [hop] at h3
   omega
  ·simp only at h17
   rw [hop] at h17
   omega
 ·exact hm
theorem slotOf_lt (l:List Nm) (s:Nm) : -1 ≤ slotOf l s ∧ slotOf l s < l.length:=by
 unfold slotOf
 split
 ·rename_i i h
  have:=(List.findIdx?_eq_some_iff_getElem.1 h).1
  omega
 ·omega
theorem opOf_ok (s:Nm):opOf s < 0 ∨ (7 ≤ opOf s ∧ opOf s ≤ 14):=by
 unfold opOf
 split
 ·rename_i x h
  have hm:=List.mem_of_find?_eq_some h
  have:∀ y ∈ opL,y.2 < 0 ∨ (7 ≤ y.2 ∧ y.2 ≤ 14):=by decide
  exact this x hm
 ·exact .inl (by decide)
theorem plainI (o:Int) (ns nc:Nat) (a:Int) (n:Nat) (t:Nm) (h:0 ≤ o ∧ o ≤ 19 ∧ o ≠ 3 ∧ o ≠ 4 ∧ o ≠ 15 ∧ o ≠ 16 ∧ o ≠ 17):mayI ⟨o,a,n,t⟩ ns nc:=by
 refine ⟨fun e => ?_,fun e => ?_,fun e => ?_,h.1,h.2.1⟩ <;> (simp only at e;omega)
theorem fin_ok (k:Int) (t:Nm) (n many:Nat) {m:MS} (h:OkM m):OkM (finE k t n many m) ∧ Gro m (finE k t n many m):=by
 unfold finE
 split
 ·exact ⟨okM_put h (.inr (plainI _ _ _ _ _ _ (by decide))),gro_put _ _⟩
 split
 ·exact ⟨okM_put h (.inr (plainI _ _ _ _ _ _ (by decide))),gro_put _ _⟩
 split
 ·refine ⟨okM_put (okM_flaw h _) ?_,(gro_flaw _ _).trans (gro_put _ _)⟩
  have h1:=slotOf_lt m.slots t
  by_cases hs:slotOf m.slots t < 0
  ·exact .inl (flaw_bad (by simp [hs]))
  ·exact .inr ⟨fun _=>⟨by simp only;omega,by simp only [MS.flaw];omega⟩,fun e=>by simp only at e;omega,fun e=>by simp only at e;omega,by simp only;omega,by simp only;omega⟩
 split
 ·refine ⟨okM_put (okM_flaw h _) (.inr (plainI _ _ _ _ _ _ ?_)),(gro_flaw _ _).trans (gro_put _ _)⟩
  split <;> decide
 split
 ·refine ⟨okM_put (okM_flaw h _) ?_,(gro_flaw _ _).trans (gro_put _ _)⟩
  rcases opOf_ok t with ho | ho
  ·exact .inl (flaw_bad (by simp [ho]))
  ·exact .inr (plainI _ _ _ _ _ _ (by omega))
 ·refine ⟨okM_put (okM_flaw h _) ?_,(gro_flaw _ _).trans (gro_put _ _)⟩
  by_cases hf:fnT t = some (many:Int)
  ·exact .inr ⟨fun e=>by simp only at e;omega,fun e=>by simp only at e;omega,fun _=>hf,by simp only;omega,by simp only;omega⟩
  ·exact .inl (flaw_bad (by simp [hf]))
mutual
theorem expr_ok:∀ (x:Nd) (m:MS),OkM m → OkM (exprC x m) ∧ Gro m (exprC x m)
 | .mk k t n ks a,m,h=>by
  rw [exprC]
  split
  ·obtain ⟨h1,h2⟩:=exprs_ok ks m h
   obtain ⟨h3,h4⟩:=fin_ok k t n ks.length h1
   exact ⟨h3,h2.trans h4⟩
  ·exact ⟨.inl rfl,gro_bad _⟩
theorem exprs_ok:∀ (l:List Nd) (m:MS),OkM m → OkM (exprsC l m) ∧ Gro m (exprsC l m)
 | [],m,h=>by rw [exprsC];exact ⟨h,Gro.refl _⟩
 | x :: r,m,h=>by
  rw [exprsC]
  obtain ⟨h1,h2⟩:=expr_ok x m h
  obtain ⟨h3,h4⟩:=exprs_ok r _ h1
  exact ⟨h3,h2.trans h4⟩
end
theorem setS_ok (t:Nm) {m:MS} (h:OkM m):OkM (setS t m) ∧ 0 ≤ slotOf (setS t m).slots t:=by
 unfold setS
 split
 ·rename_i hs
  refine ⟨?_,?_⟩
  ·rcases h with h | h
   ·exact .inl h
   ·refine .inr fun x hx=>(h x hx).grow (by simp) (Nat.le_refl _)
  ·simp only
   unfold slotOf
   split
   ·omega
   ·rename_i hn
    rw [List.findIdx?_eq_none_iff] at hn
    have:=hn t (by simp)
    simp at this
 ·rename_i hs
  exact ⟨h,by omega⟩
theorem open_ok {m:MS} (h:OkM m) (o:Int) (ho:o = 15 ∨ o = 16) (a:Int) (ha:0 ≤ a ∧ a ≤ m.code.length):OkM (m.put ⟨o,a,0,[]⟩):=
 okM_put h (.inr ⟨fun e=>by simp only at e;omega,fun _=>⟨ha.1,by simp only;omega⟩,fun e=>by simp only at e;omega,by simp only;omega,by simp only;omega⟩)
theorem put_at (m:MS) (o a:Int):((m.put ⟨o,a,0,[]⟩).code.map (·.op))[m.code.length]? = some o:=by
 simp [MS.put]
mutual
theorem block_ok:∀ (x:Nd) (m:MS),OkM m → OkM (blockC x m) ∧ Gro m (blockC x m)
 | .mk k t n ks a,m,h=>by
  rw [blockC]
  split
  ·exact stmts_ok ks m h
  ·exact ⟨.inl rfl,gro_bad _⟩
theorem stmts_ok:∀ (l:List Nd) (m:MS),OkM m → OkM (stmtsC l m) ∧ Gro m (stmtsC l m)
 | [],m,h=>by rw [stmtsC];exact ⟨h,Gro.refl _⟩
 | x :: r,m,h=>by
  rw [stmtsC]
  obtain ⟨h1,h2⟩:=stmt_ok x m h
  obtain ⟨h3,h4⟩:=stmts_ok r _ h1
  exact ⟨h3,h2.trans h4⟩
theorem stmt_ok:∀ (x:Nd) (m:MS),OkM m → OkM (stmtC x m) ∧ Gro m (stmtC x m)
 | .mk k t n [x] a,m,h=>by
  rw [stmtC]
  obtain ⟨h1,h2⟩:=expr_ok x m h
  split
  ·obtain ⟨h3,h4⟩:=setS_ok t h1
   have h5:=slotOf_lt (setS t (exprC x m)).slots t
   refine ⟨okM_put h3 (.inr ⟨fun _=>⟨h4,h5.2⟩,fun e=>by simp only at e;omega,fun e=>by simp only at e;omega,by simp only;omega,by simp only;omega⟩),(h2.trans (gro_setS _ _)).trans (gro_put _ _)⟩
  split
  ·exact ⟨okM_put h1 (.inr (plainI _ _ _ _ _ _ (by decide))),h2.trans (gro_put _ _)⟩
  split
  ·exact ⟨okM_put h1 (.inr (plainI _ _ _ _ _ _ (by decide))),h2.trans (gro_put _ _)⟩
  ·exact ⟨.inl rfl,gro_bad _⟩
 | .mk k t n [x,y] a,m,h=>by
  rw [stmtC]
  obtain ⟨h1,h2⟩:=expr_ok x m h
  split
  ·obtain ⟨h3,h4⟩:=block_ok y _ (open_ok h1 16 (.inr rfl) 0 ⟨by omega,by omega⟩)
   have hp:=put_at (exprC x m) 16 0
   have hl:=h2.len
   have hl2:=((gro_put (exprC x m) ⟨16,0,0,[]⟩).trans h4).len
   have g5:=h4.trans (gro_put _ ⟨15,m.code.length,0,[]⟩)
   exact ⟨okM_land (open_ok h3 15 (.inl rfl) _ ⟨by omega,by omega⟩) (g5.op hp) (.inr rfl),(h2.trans (gro_put _ _)).trans (g5.trans (gro_land _ _))⟩
  ·exact ⟨.inl rfl,gro_bad _⟩
 | .mk k t n [x,y,z] a,m,h=>by
  rw [stmtC]
  obtain ⟨h1,h2⟩:=expr_ok x m h
  split
  ·obtain ⟨h3,h4⟩:=block_ok y _ (open_ok h1 16 (.inr rfl) 0 ⟨by omega,by omega⟩)
   have hp:=put_at (exprC x m) 16 0
   split
   ·exact ⟨okM_land h3 (h4.op hp) (.inr rfl),(h2.trans (gro_put _ _)).trans (h4.trans (gro_land _ _))⟩
   ·have g5:=h4.trans (gro_put _ ⟨15,0,0,[]⟩)
    have o5:=okM_land (open_ok h3 15 (.inl rfl) 0 ⟨by omega,by omega⟩) (g5.op hp) (.inr rfl)
    obtain ⟨h6,h7⟩:=block_ok z _ o5
    have hq:=put_at (blockC y ((exprC x m).put ⟨16,0,0,[]⟩)) 15 0
    refine ⟨okM_land h6 (((gro_land _ _).trans h7).op hq) (.inl rfl),(h2.trans (gro_put _ _)).trans (g5.trans ((gro_land _ _).trans (h7.trans (gro_land _ _))))⟩
  ·exact ⟨.inl rfl,gro_bad _⟩
 | .mk k t n [] a,m,h=>by rw [stmtC] <;> first | exact ⟨.inl rfl,gro_bad _⟩ | simp
 | .mk k t n (_ :: _ :: _ :: _ :: _) a,m,h=>by rw [stmtC] <;> first | exact ⟨.inl rfl,gro_bad _⟩ | simp
end
theorem code_ok (x:Nd) {c:List Ins} (h:codeC x = some c):∀ i ∈ c,mayI i 64 c.length:=by
 unfold codeC at h
 split at h
 ·cases h
 ·rename_i hn
  cases h
  have h1:=(block_ok x startC (.inr (by intro i hi;cases hi))).1
  have h2:=okM_put (i:=⟨0,0,0,[]⟩) h1 (.inr (plainI _ _ _ _ _ _ (by decide)))
  rcases h2 with h2 | h2
  ·exact absurd (.inl h2) hn
  ·intro i hi
   exact (h2 i hi).grow (Nat.le_of_not_lt fun hl=>hn (.inr hl)) (Nat.le_refl _)
end Go.Proofs.YtmfpmandkhiknaaGreatDoor.vmm
namespace Go.Proofs.YtmfpmandkhiknaaGreatDoor.vmm
open Go Go.RowKit
open par (Nd wt wtL numW)
open chk (Nm)
open many (fnT)
theorem wt_kids:∀ (x:Nd),wtL x.kids + 1 ≤ wt x
 | .mk k t n ks a=>by
  have e:(Nd.mk k t n ks a).kids = ks:=rfl
  rw [e,wt]
  unfold numW
  split <;> omega
theorem wt_take:∀ (l:List Nd) (i:Nat) (y:Nd),l[i]? = some y → wtL (l.take i) + wt y ≤ wtL l
 | [],i,y,h=>by simp at h
 | x :: l,0,y,h=>by
  simp at h
  subst h
  simp only [List.take_zero,wtL]
  omega
 | x :: l,i + 1,y,h=>by
  simp only [List.take_succ_cons,wtL]
  have:=wt_take l i y (by simpa using h)
  omega
theorem expr_eq (x:Nd) (m:MS):exprC x m = if fitE x.kind x.kids.length then finE x.kind x.text x.num x.kids.length (exprsC x.kids m) else { m with bad:=true }:=by
 cases x;rw [exprC];rfl
theorem exprs_snoc:∀ (l:List Nd) (i:Nat) (y:Nd) (m:MS),l[i]? = some y → exprsC (l.take (i + 1)) m = exprC y (exprsC (l.take i) m)
 | [],i,y,m,h=>by simp at h
 | x :: l,0,y,m,h=>by
  simp at h
  subst h
  simp only [List.take_succ_cons,List.take_zero,exprsC]
 | x :: l,i + 1,y,m,h=>by
  simp only [List.take_succ_cons,exprsC]
  exact exprs_snoc l i y _ (by simpa using h)
theorem stmts_snoc:∀ (l:List Nd) (i:Nat) (y:Nd) (m:MS),l[i]? = some y → stmtsC (l.take (i + 1)) m = stmtC y (stmtsC (l.take i) m)
 | [],i,y,m,h=>by simp at h
 | x :: l,0,y,m,h=>by
  simp at h
  subst h
  simp only [List.take_succ_cons,List.take_zero,stmtsC]
 | x :: l,i + 1,y,m,h=>by
  simp only [List.take_succ_cons,stmtsC]
  exact stmts_snoc l i y _ (by simpa using h)
structure Few (m m2:MS) (a b:Nat):Prop where
 code:m2.code.length ≤ m.code.length + a
 slots:m2.slots.length ≤ m.slots.length + b
theorem Few.trans {m m2 m3:MS} {a b c d:Nat} (h:Few m m2 a b) (k:Few m2 m3 c d):Few m m3 (a + c) (b + d):=⟨by have:=h.code;have:=k.code;omega,by have:=h.slots;have:=k.slots;omega⟩
theorem Few.mono {m m2:MS} {a b c d:Nat} (h:Few m m2 a b) (h1:a ≤ c) (h2:b ≤ d):Few m m2 c d:=⟨by have:=h.code;omega,by have:=h.slots;omega⟩
theorem few_put (m:MS) (i:Ins):Few m (m.put i) 1 0:=⟨by simp [MS.put],Nat.le_refl _⟩
theorem few_flaw (m:MS) (b:Bool):Few m (m.flaw b) 0 0:=⟨Nat.le_refl _,Nat.le_refl _⟩
theorem few_bad (m:MS) (a b:Nat):Few m { m with bad:=true } a b:=⟨Nat.le_add_right _ _,Nat.le_add_right _ _⟩
theorem few_land (m:MS) (k:Nat):Few m (m.land k) 0 0:=⟨by simp [MS.land,setArg],Nat.le_refl _⟩
theorem few_setS (t:Nm) (m:MS):Few m (setS t m) 0 1:=by
 unfold setS
 split
 ·exact ⟨Nat.le_refl _,by simp⟩
 ·exact ⟨Nat.le_refl _,by omega⟩
theorem few_fin (k:Int) (t:Nm) (n many:Nat) (m:MS):Few m (finE k t n many m) 1 0:=by
 unfold finE
 split
 ·exact few_put _ _
 split
 ·exact few_put _ _
 split
 ·exact (few_flaw _ _).trans (few_put _ _)
 split
 ·exact (few_flaw _ _).trans (few_put _ _)
 split
 ·exact (few_flaw _ _).trans (few_put _ _)
 ·exact (few_flaw _ _).trans (few_put _ _)
mutual
theorem few_expr:∀ (x:Nd) (m:MS),Few m (exprC x m) (wt x) 0
 | .mk k t n ks a,m=>by
  have h1:=wt_kids (.mk k t n ks a)
  rw [exprC]
  split
  ·exact ((few_exprs ks m).trans (few_fin k t n ks.length _)).mono h1 (Nat.le_refl _)
  ·exact few_bad _ _ _
theorem few_exprs:∀ (l:List Nd) (m:MS),Few m (exprsC l m) (wtL l) 0
 | [],m=>by rw [exprsC,wtL];exact ⟨Nat.le_refl _,Nat.le_refl _⟩
 | x :: r,m=>by
  rw [exprsC,wtL]
  exact ((few_expr x m).trans (few_exprs r _))
end
mutual
theorem few_block:∀ (x:Nd) (m:MS),Few m (blockC x m) (2 * wt x) (wt x)
 | .mk k t n ks a,m=>by
  have h1:=wt_kids (.mk k t n ks a)
  rw [blockC]
  split
  ·exact (few_stmts ks m).mono (by show _ ≤ _;have:wtL (Nd.mk k t n ks a).kids = wtL ks:=rfl;omega) (by have:wtL (Nd.mk k t n ks a).kids = wtL ks:=rfl;omega)
  ·exact few_bad _ _ _
theorem few_stmts:∀ (l:List Nd) (m:MS),Few m (stmtsC l m) (2 * wtL l) (wtL l)
 | [],m=>by rw [stmtsC,wtL];exact ⟨Nat.le_refl _,Nat.le_refl _⟩
 | x :: r,m=>by
  rw [stmtsC,wtL]
  exact ((few_stmt x m).trans (few_stmts r _)).mono (by omega) (by omega)
theorem few_stmt:∀ (x:Nd) (m:MS),Few m (stmtC x m) (2 * wt x) (wt x)
 | .mk k t n [x] a,m=>by
  have h1:=wt_kids (.mk k t n [x] a)
  have h2:wtL (Nd.mk k t n [x] a).kids = wt x:=by show wtL [x] = _;simp [wtL]
  have h3:=few_expr x m
  rw [stmtC]
  split
  ·exact ((h3.trans (few_setS _ _)).trans (few_put _ _)).mono (by omega) (by omega)
  split
  ·exact (h3.trans (few_put _ _)).mono (by omega) (by omega)
  split
  ·exact (h3.trans (few_put _ _)).mono (by omega) (by omega)
  ·exact few_bad _ _ _
 | .mk k t n [x,y] a,m=>by
  have h1:=wt_kids (.mk k t n [x,y] a)
  have h2:wtL (Nd.mk k t n [x,y] a).kids = wt x + wt y:=by show wtL [x,y] = _;simp [wtL]
  have h3:=few_expr x m
  rw [stmtC]
  split
  ·exact ((((h3.trans (few_put _ _)).trans (few_block y _)).trans (few_put _ _)).trans (few_land _ _)).mono (by omega) (by omega)
  ·exact few_bad _ _ _
 | .mk k t n [x,y,z] a,m=>by
  have h1:=wt_kids (.mk k t n [x,y,z] a)
  have h2:wtL (Nd.mk k t n [x,y,z] a).kids = wt x + wt y + wt z:=by show wtL [x,y,z] = _;simp [wtL];omega
  have h3:=few_expr x m
  rw [stmtC]
  split
  ·split
   ·exact (((h3.trans (few_put _ _)).trans (few_block y _)).trans (few_land _ _)).mono (by omega) (by omega)
   ·exact ((((((h3.trans (few_put _ _)).trans (few_block y _)).trans (few_put _ _)).trans (few_land _ _)).trans (few_block z _)).trans (few_land _ _)).mono (by omega) (by omega)
  ·exact few_bad _ _ _
 | .mk k t n [] a,m=>by rw [stmtC] <;> first | exact few_bad _ _ _ | simp
 | .mk k t n (_ :: _ :: _ :: _ :: _) a,m=>by rw [stmtC] <;> first | exact few_bad _ _ _ | simp
end
end Go.Proofs.YtmfpmandkhiknaaGreatDoor.vmm
