/-
  Proved: a law for a region that draws its order: one obligation an operation, whatever the order. Conditions: as each theorem says. No program is in sight.
  Proved: small facts on worlds that differ in named blocks alone, and on blocks that are known whole. Conditions: as each theorem says. No program is in sight.
  Proved: plain facts on a path's pieces, names, clean paths. No program is in sight.
-/
import Derived.WalkKit
import Derived.WalkLawsBesides
import Derived.Orders
set_option linter.unusedVariables false
set_option linter.unusedSimpArgs false
namespace Go.Proofs.YtifhnpkapgaboaaGreat.reg
open Go.RowKit
def reaches (ops:Array Oper):Nat → Nat → Nat → Bool
 | 0,_,_=>false
 | n + 1,j,i=>((ops[j]?).map fun o=>o.after.toList.any fun e=>Region.binds .any e && (e.on == i || reaches ops n e.on i)).getD false
def directB (o:Oper) (i:Nat):Bool:=o.after.toList.any fun e=>Region.binds .any e && e.on == i
def fineB (ops:Array Oper) (size:Nat):Bool:=
 (List.range ops.size).all fun i=>(ops[i]?.map fun o=>o.after.all (fun e => !Region.binds .any e || decide (e.on < i)) &&
  (o.dst.map fun d=>decide (d < size) && (List.range ops.size).all fun j=>j == i || (ops[j]?.map fun p=>p.dst != some d).getD true).getD true).getD true
section
variable {P:Program} {ops:Array Oper} {Q:Exit → Act → World → Prop}
def Sees (ops:Array Oper) (F:Nat → Value → World → Prop) (a0:Act) (i:Nat) (o:Oper) (t:Tmp) (v:Value) (w:World):Prop:=
 (∀ j p,ops[j]? = some p → p.dst = some t → directB o j = true → F j v w) ∧
 ((∀ j p,ops[j]? = some p → p.dst = some t → reaches ops ops.size j i = true) → v = a0.tmps.getD t undef)
def putOp (ops:Array Oper) (V:Nat → Value) (a:Act) (i:Nat):Act:=match ops[i]? with
 | some o=>a.put o.dst (V i)
 | none=>a
theorem put_defers (a:Act) (d:Option Tmp) (v:Value):(a.put d v).defers = a.defers:=by cases d <;> rfl
theorem fold_defers (ops:Array Oper) (V:Nat → Value):∀ (l:List Nat) (a:Act),(l.foldl (putOp ops V) a).defers = a.defers
 | [],a=>rfl
 | i :: l,a=>by
  rw [List.foldl_cons,fold_defers ops V l]
  unfold putOp
  split
  ·exact put_defers _ _ _
  ·rfl
structure Inv (ops:Array Oper) (Y:World → Prop) (F:Nat → Value → World → Prop) (G:Nat → World → Prop) (a0:Act) (listed:Array Bool) (done:List Nat) (V:Nat → Value) (a:Act) (w:World):Prop where
 size:listed.size = ops.size
 mem:∀ i,i ∈ done ↔ i < ops.size ∧ listed.getD i true = true
 nodup:done.Nodup
 act:a = done.foldl (putOp ops V) a0
 ext:Y w
 res:∀ k,k ∉ done → G k w
 fact:∀ i ∈ done,F i (V i) w
 back:∀ i ∈ done,∀ o,ops[i]? = some o → ∀ e ∈ o.after,Region.binds .any e = true → e.on ∈ done
theorem reaches_done {Y:World → Prop} {F:Nat → Value → World → Prop} {G:Nat → World → Prop} {a0:Act} {listed:Array Bool} {done:List Nat} {V:Nat → Value} {a:Act} {w:World}
  (h:Inv ops Y F G a0 listed done V a w):∀ (n j i:Nat),j ∈ done → reaches ops n j i = true → i ∈ done:=by
 intro n
 induction n with
 | zero=>intro j i _ hr;simp [reaches] at hr
 | succ n ih =>
  intro j i hj hr
  simp only [reaches] at hr
  cases ho:ops[j]? with
  | none=>simp [ho] at hr
  | some o =>
   simp only [ho,Option.map_some,Option.getD_some,List.any_eq_true,Array.mem_toList_iff,Bool.and_eq_true,Bool.or_eq_true,beq_iff_eq] at hr
   obtain ⟨e,he,hb,h1⟩:=hr
   have:=h.back j hj o ho e he hb
   rcases h1 with rfl | h1
   ·exact this
   ·exact ih _ _ this h1
theorem getD_fold_not (V:Nat → Value) (t:Tmp):∀ (l:List Nat) (a:Act),(∀ i ∈ l,∀ o,ops[i]? = some o → o.dst ≠ some t) → (l.foldl (putOp ops V) a).tmps.getD t undef = a.tmps.getD t undef:=by
 intro l
 induction l with
 | nil=>intro a _;rfl
 | cons i l ih =>
  intro a h
  rw [List.foldl_cons,ih _ (fun j hj=>h j (List.mem_cons_of_mem _ hj))]
  unfold putOp
  cases ho:ops[i]? with
  | none=>rfl
  | some o =>
   have hd:=h i (List.mem_cons_self ..) o ho
   cases hd':o.dst with
   | none=>simp [Act.put,hd']
   | some d =>
    have hne:d ≠ t:=fun e=>hd (by rw [hd',e])
    simp [Act.put,hd',Array.getElem?_setIfInBounds_ne hne]
theorem size_fold (V:Nat → Value):∀ (l:List Nat) (a:Act),(l.foldl (putOp ops V) a).tmps.size = a.tmps.size:=by
 intro l
 induction l with
 | nil=>intro a;rfl
 | cons i l ih =>
  intro a
  rw [List.foldl_cons,ih]
  unfold putOp
  cases ho:ops[i]? with
  | none=>rfl
  | some o=>cases hd':o.dst <;> simp [Act.put,hd']
theorem getD_fold_in (V:Nat → Value) (t:Tmp) (j:Nat) (p:Oper) (hp:ops[j]? = some p) (hd:p.dst = some t) (huniq:∀ i o,ops[i]? = some o → o.dst = some t → i = j) :
  ∀ (l:List Nat) (a:Act),j ∈ l → l.Nodup → t < a.tmps.size → (l.foldl (putOp ops V) a).tmps.getD t undef = V j:=by
 intro l
 induction l with
 | nil=>intro a h;cases h
 | cons i l ih =>
  intro a hj hn ht
  rw [List.foldl_cons]
  have hn':=List.nodup_cons.1 hn
  by_cases hij:i = j
  ·subst hij
   rw [getD_fold_not V t l _ (fun k hk o ho hd'=>hn'.1 (huniq k o ho hd' ▸ hk))]
   simp [putOp,hp,Act.put,hd,ht]
  ·have hj':j ∈ l:=by
    cases List.mem_cons.1 hj with
    | inl h=>exact absurd h.symm hij
    | inr h=>exact h
   refine ih _ hj' hn'.2 ?_
   have:=size_fold (ops:=ops) V [i] a
   simp only [List.foldl_cons,List.foldl_nil] at this
   rw [this];exact ht
theorem fine_back {size:Nat} (h:fineB ops size = true) {i:Nat} {o:Oper} (ho:ops[i]? = some o):∀ e ∈ o.after,Region.binds .any e = true → e.on < i:=by
 intro e he hb
 have hi:i < ops.size:=(Array.getElem?_eq_some_iff.1 ho).1
 have:=(List.all_eq_true.1 h) i (List.mem_range.2 hi)
 simp only [ho,Option.map_some,Option.getD_some,Bool.and_eq_true,Array.all_eq_true_iff_forall_mem] at this
 have:=this.1 e he
 simp [hb] at this
 exact this
theorem fine_dst {size:Nat} (h:fineB ops size = true) {i:Nat} {o:Oper} (ho:ops[i]? = some o) {d:Tmp} (hd:o.dst = some d):d < size ∧ ∀ j p,ops[j]? = some p → p.dst = some d → j = i:=by
 have hi:i < ops.size:=(Array.getElem?_eq_some_iff.1 ho).1
 have:=(List.all_eq_true.1 h) i (List.mem_range.2 hi)
 simp only [ho,Option.map_some,Option.getD_some,Bool.and_eq_true,hd,decide_eq_true_eq] at this
 refine ⟨this.2.1,fun j p hp hpd => ?_⟩
 have hj:j < ops.size:=(Array.getElem?_eq_some_iff.1 hp).1
 have:=(List.all_eq_true.1 this.2.2) j (List.mem_range.2 hj)
 simp [hp,hpd] at this
 exact this
theorem put_congr (V V':Nat → Value):∀ (l:List Nat) (a:Act),(∀ i ∈ l,V i = V' i) → l.foldl (putOp ops V) a = l.foldl (putOp ops V') a:=by
 intro l
 induction l with
 | nil=>intro a _;rfl
 | cons i l ih =>
  intro a h
  rw [List.foldl_cons,List.foldl_cons,ih _ (fun j hj=>h j (List.mem_cons_of_mem _ hj))]
  unfold putOp
  rw [h i (List.mem_cons_self ..)]
theorem nodup_len:∀ (n:Nat) (l:List Nat),l.Nodup → (∀ k ∈ l,k < n) → l.length ≤ n:=by
 intro n
 induction n with
 | zero =>
  intro l _ h
  cases l with
  | nil=>simp
  | cons a l=>have:=h a (List.mem_cons_self ..);omega
 | succ n ih =>
  intro l hn h
  have h1:=ih (l.erase n) (hn.erase n) (fun k hk=>by
   have:=(hn.mem_erase_iff).1 hk
   have:=h k this.2
   omega)
  have h2:=List.length_erase (a:=n) (l:=l)
  split at h2 <;> omega
theorem region_inv {id:Nat} {a0:Act} {w:World} (hm:P.follows .mixedOrders = true) (X:Nat → World → World → Prop) (Y:World → Prop) (F:Nat → Value → World → Prop) (G:Nat → World → Prop)
  (hY0:Y w.drew) (hG0:∀ k,G k w.drew) (hY:∀ j w w',Y w → X j w w' → Y w') (hF:∀ j i v w w',i ≠ j → j < ops.size → reaches ops ops.size i j = false → F i v w → X j w w' → F i v w') (hG:∀ j k w w',k ≠ j → G k w → X j w w' → G k w') (hfine:fineB ops a0.tmps.size = true)
  (hstep:∀ i o,ops[i]? = some o → ∀ a w',a.defers = a0.defers → Y w' → (∀ k,(k == i || reaches ops ops.size k i) = true → G k w') → (∀ t ∈ o.looksAt ops,Sees ops F a0 i o t (a.tmps.getD t undef) w') →
   if Region.wanted o (yielded ops a.tmps) then o.wp P a w' (fun a' w''=>∃ v,a' = a.put o.dst v ∧ X i w' w'' ∧ F i v w'') Q else F i undef w')
  (hend:∀ V w',Y w' → (∀ i,i < ops.size → F i (V i) w') → Q .normal ((List.range ops.size).foldl (putOp ops V) a0) w'):(Code.region id ops true).wp P Q a0 w:=by
 refine wp_region_any hm ?_
 show wpAny P .any ops Q ops.size (Array.replicate ops.size false) a0 w.drew
 have key:∀ (fuel:Nat) (listed:Array Bool) (done:List Nat) (V:Nat → Value) (a:Act) (w':World),Inv ops Y F G a0 listed done V a w' → done.length + fuel = ops.size → wpAny P .any ops Q fuel listed a w':=by
  intro fuel
  -- the region is done where nothing is ready
  have hdone:∀ (listed:Array Bool) (done:List Nat) (V:Nat → Value) (a:Act) (w':World),Inv ops Y F G a0 listed done V a w' → Region.ready .any ops listed = [] → Q .normal a w':=by
   intro listed done V a w' h hr
   have hall:∀ i,i < ops.size → i ∈ done:=by
    intro i
    induction i using Nat.strongRecOn with
    | ind i ih =>
     intro hi
     rw [h.mem]
     refine ⟨hi,?_⟩
     cases hl:listed.getD i true with
     | true=>rfl
     | false =>
      obtain ⟨o,ho⟩:∃ o,ops[i]? = some o:=⟨_,Array.getElem?_eq_getElem hi⟩
      have:i ∈ Region.ready .any ops listed:=mem_ready.2 ⟨hl,o,ho,fun e he hb=>by
       have hlt:=fine_back hfine ho e he hb
       have hin:=(h.mem e.on).1 (ih e.on hlt (by omega))
       have hs:e.on < listed.size:=by rw [h.size];omega
       have:=hin.2
       simp [Array.getD,hs] at this ⊢
       exact this⟩
      rw [hr] at this;cases this
   have hperm:done.Perm (List.range ops.size):=by
    refine (List.perm_ext_iff_of_nodup h.nodup List.nodup_range).2 (fun i => ?_)
    rw [List.mem_range]
    exact ⟨fun hi=>((h.mem i).1 hi).1,hall i⟩
   have hfr:a = (List.range ops.size).foldl (putOp ops V) a0:=by
    rw [h.act]
    refine hperm.foldl_eq' (fun i _ j _ z => ?_) a0
    by_cases hij:i = j
    ·rw [hij]
    ·unfold putOp
     cases ho:ops[i]? with
     | none=>rfl
     | some o =>
      cases hp:ops[j]? with
      | none=>rfl
      | some p =>
       refine Act.put_comm z _ _ (fun d hd hd'=>hij ?_)
       exact ((fine_dst hfine ho hd).2 j p hp hd').symm
   rw [hfr]
   exact hend V w' h.ext (fun i hi=>h.fact i (hall i hi))
  induction fuel with
  | zero =>
   intro listed done V a w' h hlen
   have hr:Region.ready .any ops listed = []:=by
    cases hr:Region.ready .any ops listed with
    | nil=>rfl
    | cons i l =>
     have hi:i ∈ Region.ready .any ops listed:=by rw [hr];exact List.mem_cons_self ..
     obtain ⟨hl,o,ho,_⟩:=mem_ready.1 hi
     have hi':i < ops.size:=(Array.getElem?_eq_some_iff.1 ho).1
     have hnot:i ∉ done:=fun hin=>by rw [((h.mem i).1 hin).2] at hl;cases hl
     have hsub:(i :: done).Nodup:=List.nodup_cons.2 ⟨hnot,h.nodup⟩
     have hle:(i :: done).length ≤ ops.size:=by
      refine nodup_len ops.size _ hsub (fun k hk => ?_)
      cases List.mem_cons.1 hk with
      | inl e=>rw [e];exact hi'
      | inr e=>exact ((h.mem k).1 e).1
     simp at hle
     omega
   exact ⟨hr,hdone listed done V a w' h hr⟩
  | succ fuel ih =>
   intro listed done V a w' h hlen
   refine ⟨hdone listed done V a w' h,fun i hi => ?_⟩
   obtain ⟨hl,o,ho,hdeps⟩:=mem_ready.1 hi
   have hi':i < ops.size:=(Array.getElem?_eq_some_iff.1 ho).1
   have hnot:i ∉ done:=fun hin=>by rw [((h.mem i).1 hin).2] at hl;cases hl
   have hsees:∀ t ∈ o.looksAt ops,Sees ops F a0 i o t (a.tmps.getD t undef) w':=by
    intro t _
    refine ⟨fun j p hp hd hdir => ?_,fun hall => ?_⟩
    ·simp only [directB,List.any_eq_true,Array.mem_toList_iff,Bool.and_eq_true,beq_iff_eq] at hdir
     obtain ⟨e,he,hb,rfl⟩:=hdir
     have hlt:e.on < ops.size:=(Array.getElem?_eq_some_iff.1 hp).1
     have hs:e.on < listed.size:=by rw [h.size];exact hlt
     have hin:e.on ∈ done:=(h.mem e.on).2 ⟨hlt,by have:=hdeps e he hb;simp [Array.getD,hs] at this ⊢;exact this⟩
     have hu:=fine_dst hfine hp hd
     rw [h.act,getD_fold_in V t e.on p hp hd (fun k q hk hq=>hu.2 k q hk hq) done a0 hin h.nodup hu.1]
     exact h.fact _ hin
    ·rw [h.act]
     refine getD_fold_not V t done a0 (fun k hk q hq hd=>hnot ?_)
     exact reaches_done h _ k i hk (hall k q hq hd)
   have hres:∀ k,(k == i || reaches ops ops.size k i) = true → G k w':=by
    intro k hk
    rw [Bool.or_eq_true,beq_iff_eq] at hk
    refine h.res k (fun hin=>hnot ?_)
    rcases hk with rfl | hk
    ·exact hin
    ·exact reaches_done h _ k i hin hk
   have hst:=hstep i o ho a w' (by rw [h.act];exact fold_defers _ _ _ _) h.ext hres hsees
   have hnext:∀ v w'',(X i w' w'' ∨ w' = w'') → F i v w'' → wpAny P .any ops Q fuel (listed.setIfInBounds i true) (a.put o.dst v) w'':=by
    intro v w'' hX hFv
    have hV:∀ k ∈ done,(fun k=>if k = i then v else V k) k = V k:=fun k hk=>if_neg (fun (e:k = i)=>hnot (e ▸ hk))
    refine ih (listed.setIfInBounds i true) (done ++ [i]) (fun k=>if k = i then v else V k) (a.put o.dst v) w'' ⟨by simp [h.size],fun k => ?_,?_,?_,?_,fun k hk => ?_,fun k hk => ?_,fun k hk q hq e he hb => ?_⟩ (by simp;omega)
    ·rw [List.mem_append,List.mem_singleton]
     by_cases hk:k = i
     ·subst hk
      have hs:k < listed.size:=by rw [h.size];exact hi'
      simp [hi',hs]
     ·rw [getD_set_ne true (Ne.symm hk),h.mem k]
      simp [hk]
    ·rw [List.nodup_append]
     refine ⟨h.nodup,by simp,fun x hx y hy => ?_⟩
     rw [List.mem_singleton] at hy
     rintro rfl
     exact hnot (hy ▸ hx)
    ·rw [List.foldl_append,List.foldl_cons,List.foldl_nil,put_congr _ V done a0 hV,← h.act]
     simp [putOp,ho]
    ·rcases hX with hX | rfl
     ·exact hY _ _ _ h.ext hX
     ·exact h.ext
    ·have hki:k ≠ i:=fun e=>hk (by rw [e];simp)
     have hkd:k ∉ done:=fun hd=>hk (by simp [hd])
     rcases hX with hX | rfl
     ·exact hG _ _ _ _ hki (h.res k hkd) hX
     ·exact h.res k hkd
    ·show F k (if k = i then v else V k) w''
     rcases List.mem_append.1 hk with hk | hk
     ·rw [if_neg (fun (e:k = i)=>hnot (e ▸ hk))]
      have hki:k ≠ i:=fun e=>hnot (e ▸ hk)
      rcases hX with hX | rfl
      ·refine hF _ _ _ _ _ hki hi' ?_ (h.fact k hk) hX
       cases hr:reaches ops ops.size k i with
       | false=>rfl
       | true=>exact absurd (reaches_done h _ k i hk hr) hnot
      ·exact h.fact k hk
     ·rw [List.mem_singleton] at hk
      rw [if_pos hk,hk]
      exact hFv
    ·rcases List.mem_append.1 hk with hk | hk
     ·exact List.mem_append_left _ (h.back k hk q hq e he hb)
     ·rw [List.mem_singleton] at hk
      subst hk
      rw [ho] at hq;cases hq
      have hlt:e.on < ops.size:=Nat.lt_trans (fine_back hfine ho e he hb) hi'
      have hs:e.on < listed.size:=by rw [h.size];exact hlt
      refine List.mem_append_left _ ((h.mem e.on).2 ⟨hlt,?_⟩)
      have:=hdeps e he hb
      simp [Array.getD,hs] at this ⊢
      exact this
   unfold wpOp
   simp only [ho]
   split
   ·rename_i hw
    rw [if_pos hw] at hst
    refine .inl (Oper.wp_mono ?_ hst)
    rintro a' w'' ⟨v,rfl,hX,hFv⟩
    exact hnext v w'' (.inl hX) hFv
   ·rename_i hw
    rw [if_neg hw] at hst
    exact hnext undef w' (.inr rfl) hst
 refine key ops.size _ [] (fun _=>undef) a0 w.drew ⟨by simp,fun i => ?_,List.nodup_nil,rfl,hY0,(fun k _=>hG0 k),(fun i hi=>by cases hi),(fun i hi=>by cases hi)⟩ (by simp)
 constructor
 ·intro h;cases h
 ·rintro ⟨h1,h2⟩
  simp [h1] at h2
/-! ### Ways to say the obligations one by one -/
def Each (f:Nat → Oper → Prop):Nat → List Oper → Prop
 | _,[]=>True
 | i,o :: l=>f i o ∧ Each f (i + 1) l
theorem each_at {f:Nat → Oper → Prop}:∀ (l:List Oper) (k:Nat),Each f k l → ∀ i o,l[i]? = some o → f (k + i) o:=by
 intro l
 induction l with
 | nil=>intro k _ i o h;simp at h
 | cons p l ih =>
  intro k h i o hi
  cases i with
  | zero=>simp at hi;subst hi;exact h.1
  | succ i =>
   have:=ih (k + 1) h.2 i o (by simpa using hi)
   rw [show k + 1 + i = k + (i + 1) by omega] at this
   exact this
def See (ops:List Oper) (F:Nat → Value → World → Prop) (a0:Act) (i:Nat) (o:Oper) (v:Value) (w:World) (t:Tmp):Prop:=
 match ops.findIdx? (fun p=>p.dst == some t) with
 | some j=>match directB o j with
  | true=>F j v w
  | false=>match reaches ops.toArray ops.length j i with
   | true=>v = a0.tmps.getD t undef
   | false=>True
 | none=>v = a0.tmps.getD t undef
def Sights (ops:List Oper) (F:Nat → Value → World → Prop) (a0:Act) (i:Nat) (o:Oper) (a:Act) (w:World):List Tmp → Prop
 | []=>a.defers = a0.defers
 | t :: l=>See ops F a0 i o (a.tmps.getD t undef) w t ∧ Sights ops F a0 i o a w l
theorem sights_of {l:List Oper} {F:Nat → Value → World → Prop} {a0:Act} {i:Nat} {o:Oper} {a:Act} {w:World} {size:Nat} (hfine:fineB l.toArray size = true) (hd:a.defers = a0.defers):∀ (ts:List Tmp),
  (∀ t ∈ ts,Sees l.toArray F a0 i o t (a.tmps.getD t undef) w) → Sights l F a0 i o a w ts:=by
 intro ts
 induction ts with
 | nil=>intro _;exact hd
 | cons t ts ih =>
  intro h
  refine ⟨?_,ih (fun t ht=>h t (List.mem_cons_of_mem _ ht))⟩
  obtain ⟨h1,h2⟩:=h t (List.mem_cons_self ..)
  unfold See
  cases hj:l.findIdx? (fun p=>p.dst == some t) with
  | none =>
   refine h2 (fun j p hp hd => ?_)
   rw [List.findIdx?_eq_none_iff] at hj
   have hp':l[j]? = some p:=by simpa using hp
   have:=hj p (List.mem_of_getElem? hp')
   simp [hd] at this
  | some j =>
   obtain ⟨hlt,hd,_⟩:=List.findIdx?_eq_some_iff_getElem.1 hj
   have hp:l.toArray[j]? = some l[j]:=by simp [hlt]
   have hd':(l[j]).dst = some t:=by simpa using hd
   simp only []
   cases hdir:directB o j with
   | true=>exact h1 j _ hp hd' hdir
   | false =>
    cases hr:reaches l.toArray l.length j i with
    | true =>
     refine h2 (fun k q hq hqd => ?_)
     have:=(fine_dst hfine hp hd').2 k q hq hqd
     subst this
     simpa using hr
    | false=>trivial
theorem region_eachG {id:Nat} {l:List Oper} {a0:Act} {w:World} (hm:P.follows .mixedOrders = true) (X:Nat → World → World → Prop) (Y:World → Prop) (F:Nat → Value → World → Prop) (G:Nat → World → Prop)
  (hY0:Y w.drew) (hG0:∀ k,G k w.drew) (hY:∀ j w w',Y w → X j w w' → Y w') (hF:∀ j i v w w',i ≠ j → j < l.length → reaches l.toArray l.length i j = false → F i v w → X j w w' → F i v w') (hG:∀ j k w w',k ≠ j → G k w → X j w w' → G k w') (hfine:fineB l.toArray a0.tmps.size = true)
  (hstep:Each (fun i o=>∀ a w',Y w' → (∀ k,(k == i || reaches l.toArray l.length k i) = true → G k w') → Sights l F a0 i o a w' (o.looksAt l.toArray) →
   if Region.wanted o (yielded l.toArray a.tmps) then o.wp P a w' (fun a' w''=>∃ v,a' = a.put o.dst v ∧ X i w' w'' ∧ F i v w'') Q else F i undef w') 0 l)
  (hend:∀ (V:Nat → Value) w',Y w' → (∀ i,i < l.length → F i (V i) w') → Q .normal (l.zipIdx.foldl (fun a x=>a.put x.1.dst (V x.2)) a0) w'):(Code.region id l.toArray true).wp P Q a0 w:=by
 refine region_inv hm X Y F G hY0 hG0 hY (by simpa using hF) hG hfine (fun i o ho a w' hdf hx hg hs => ?_) (fun V w' hx hf => ?_)
 ·have:=each_at l 0 hstep i o (by simpa using ho)
  rw [Nat.zero_add] at this
  exact this a w' hx (by simpa using hg) (sights_of hfine hdf _ hs)
 ·have h:=hend V w' hx (by simpa using hf)
  have e:∀ (k:List Oper) (n:Nat) (a:Act),l.drop n = k → (k.zipIdx n).foldl (fun a x=>a.put x.1.dst (V x.2)) a = (List.range' n k.length).foldl (putOp l.toArray V) a:=by
   intro k
   induction k with
   | nil=>intro n a _;rfl
   | cons o k ih =>
    intro n a hd
    have hn:l[n]? = some o:=by rw [← List.head?_drop,hd];rfl
    have hd2:l.drop (n + 1) = k:=by rw [← List.drop_drop,hd];rfl
    simp only [List.zipIdx_cons,List.foldl_cons,List.length_cons,List.range'_succ]
    rw [ih (n + 1) _ hd2]
    simp [putOp,hn]
  have e2:=e l 0 a0 rfl
  rw [List.size_toArray,List.range_eq_range',← e2]
  exact h
theorem region_each {id:Nat} {l:List Oper} {a0:Act} {w:World} (hm:P.follows .mixedOrders = true) (X:World → World → Prop) (F:Nat → Value → World → Prop)
  (hrefl:∀ w,X w w) (htrans:∀ {a b c},X a b → X b c → X a c) (hF:∀ i v w w',F i v w → X w w' → F i v w') (hfine:fineB l.toArray a0.tmps.size = true)
  (hstep:Each (fun i o=>∀ a w',X w.drew w' → Sights l F a0 i o a w' (o.looksAt l.toArray) →
   if Region.wanted o (yielded l.toArray a.tmps) then o.wp P a w' (fun a' w''=>∃ v,a' = a.put o.dst v ∧ X w' w'' ∧ F i v w'') Q else F i undef w') 0 l)
  (hend:∀ (V:Nat → Value) w',X w.drew w' → (∀ i,i < l.length → F i (V i) w') → Q .normal (l.zipIdx.foldl (fun a x=>a.put x.1.dst (V x.2)) a0) w'):(Code.region id l.toArray true).wp P Q a0 w:=by
 refine region_eachG hm (fun _=>X) (X w.drew) F (fun _ _=>True) (hrefl _) (fun _=>trivial) (fun _ _ _ h k=>htrans h k) (fun _ i v w w' _ _ _ h k=>hF i v w w' h k) (fun _ _ _ _ _ _ _=>trivial) hfine ?_ hend
 have:∀ (k:List Oper) (n:Nat),Each (fun i o=>∀ a w',X w.drew w' → Sights l F a0 i o a w' (o.looksAt l.toArray) →
   if Region.wanted o (yielded l.toArray a.tmps) then o.wp P a w' (fun a' w''=>∃ v,a' = a.put o.dst v ∧ X w' w'' ∧ F i v w'') Q else F i undef w') n k →
   Each (fun i o=>∀ a w',X w.drew w' → (∀ k,(k == i || reaches l.toArray l.length k i) = true → True) → Sights l F a0 i o a w' (o.looksAt l.toArray) →
   if Region.wanted o (yielded l.toArray a.tmps) then o.wp P a w' (fun a' w''=>∃ v,a' = a.put o.dst v ∧ X w' w'' ∧ F i v w'') Q else F i undef w') n k:=by
  intro k
  induction k with
  | nil=>intro n _;trivial
  | cons o k ih=>intro n h;exact ⟨fun a w' hx _ hs=>h.1 a w' hx hs,ih _ h.2⟩
 exact this l 0 hstep
end
theorem last_no {l:List Oper} {i j:Nat} (h:((List.range l.length).all fun j=>j == i || reaches l.toArray l.length i j) = true) (hij:i ≠ j) (hj:j < l.length) (hr:reaches l.toArray l.length i j = false):False:=by
 have:=(List.all_eq_true.1 h) j (List.mem_range.2 hj)
 rw [hr,Bool.or_false,beq_iff_eq] at this
 exact hij this.symm
def Runs (P:Program) (o:Oper) (a:Act) (w:World) (r:Result Next):Prop:=
 ∀ ρ:Operand → Value,(∀ v,ρ (.const v) = v) → (∀ f,ρ (.func f) = .func (.func f) #[] #[]) → (∀ g,ρ (.global g) = .pointer (some ⟨g,0,none⟩)) → (∀ x,a.eval x = ρ x) → (execOp ρ o).run P w = r
theorem Runs.run {P:Program} {o:Oper} {a:Act} {w:World} {r:Result Next} (h:Runs P o a w r):(execOp a.eval o).run P w = r:=h a.eval (fun _=>rfl) (fun _=>rfl) (fun _=>rfl) (fun _=>rfl)
theorem wp_value {P:Program} {o:Oper} {a:Act} {w w':World} {v:Value} {K:Act → World → Prop} {Q:Exit → Act → World → Prop} (h:Runs P o a w (.ok (.value v) w')) (hk:K (a.put o.dst v) w'):o.wp P a w K Q:=by
 unfold Oper.wp;rw [h.run];exact hk
theorem wp_skip {P:Program} {o:Oper} {a:Act} {w w':World} {K:Act → World → Prop} {Q:Exit → Act → World → Prop} (h:Runs P o a w (.ok .skip w')) (hk:K (a.put o.dst undef) w'):o.wp P a w K Q:=by
 unfold Oper.wp;rw [h.run];exact hk
theorem wp_call {P:Program} {o:Oper} {a:Act} {w w':World} {f:FuncId} {args:Array Value} {K:Act → World → Prop} {Q:Exit → Act → World → Prop} (h:Runs P o a w (.ok (.enter f args) w'))
  (hk:Calls P f args w' fun e w''=>∃ v,e = .returned v ∧ K (a.put o.dst v) w''):o.wp P a w K Q:=by
 unfold Oper.wp;rw [h.run]
 refine hk.mono ?_
 rintro e w'' ⟨v,rfl,hv⟩
 exact hv
theorem runs_append {P:Program} {w w':World} {o:Oper} {a:Act} {v' vs vx:Value} {s x:Operand} {t ty:TypeId}
  (ho:o.op = .call { callee:=.builtin .append,args := #[s,x],argTypes := #[t,t] }) (hty:o.type = ty) (hs:a.eval s = vs) (hx:a.eval x = vx) (hr:(Builtin.append_ #[t,t] ty #[vs,vx]).run P w = .ok v' w'):Runs P o a w (.ok (.value v') w'):=by
 intro ρ _ _ _ re
 rw [re] at hs hx
 subst hty
 simp [execOp,ho,resolve,invoke,builtin,hs,hx,hr,Result.andThen]
theorem wpList_append {P:Program} {w w':World} {ops:Array Oper} {rest:List Oper} {o:Oper} {a:Act} {Q:Exit → Act → World → Prop} {v' vs vx:Value} {s x:Operand} {t ty:TypeId} (hgd:o.guard = none)
  (ho:o.op = .call { callee:=.builtin .append,args := #[s,x],argTypes := #[t,t] }) (hty:o.type = ty) (hs:a.eval s = vs) (hx:a.eval x = vx) (hr:(Builtin.append_ #[t,t] ty #[vs,vx]).run P w = .ok v' w')
  (h:wpList P ops Q rest (a.put o.dst v') w'):wpList P ops Q (o :: rest) a w:=by
 refine wpList_plain hgd fun K hK => ?_
 unfold Oper.wp
 subst hty
 simp [execOp,ho,resolve,invoke,builtin,hs,hx,hr,Result.andThen]
 exact hK _ _ h
def Ext (w w':World):Prop:=Below w.heap.size w w'
theorem Ext.refl (w:World):Ext w w:=Below.refl _ _
theorem Ext.trans {a b c:World} (h:Ext a b) (k:Ext b c):Ext a c:=Below.trans h (Below.mono k h.size)
theorem Ext.cell {w w':World} (h:Ext w w') {a:Addr} {v:Value} (hc:w.cell? a = some v):w'.cell? a = some v:=(Below.cell h (World.block_lt_of_cell? w a hc)).trans hc
theorem Ext.blk {w w':World} (h:Ext w w') {b:Nat} {o:Obj} (hc:w.heap[b]? = some o):w'.heap[b]? = some o:=(Below.block h b (Array.getElem?_eq_some_iff.1 hc).1).trans hc
end Go.Proofs.YtifhnpkapgaboaaGreat.reg
namespace Go.Proofs.YtifhnpkapgaboaaGreat.heap
open Go.RowKit
structure Turned (S:List Nat) (w w':World):Prop where
 os:w'.os = w.os
 tape:w'.tape = w.tape
 output:w'.output = w.output
 size:w.heap.size ≤ w'.heap.size
 block:∀ k,k < w.heap.size → k ∉ S → w'.heap[k]? = w.heap[k]?
theorem Turned.refl (S:List Nat) (w:World):Turned S w w:=⟨rfl,rfl,rfl,Nat.le_refl _,fun _ _ _=>rfl⟩
theorem Turned.trans {S:List Nat} {a b c:World} (h:Turned S a b) (k:Turned S b c):Turned S a c:=
 ⟨k.os.trans h.os,k.tape.trans h.tape,k.output.trans h.output,Nat.le_trans h.size k.size,fun i hi hn=>(k.block i (Nat.lt_of_lt_of_le hi h.size) hn).trans (h.block i hi hn)⟩
theorem Turned.setCell {S:List Nat} {a w:World} (h:Turned S a w) {p:Addr} (hp:p.block ∈ S) (u:Value):Turned S a (w.setCell p u):=
 h.trans ⟨rfl,rfl,rfl,by simp [World.setCell],fun k _ hn=>Below.heap_setCell _ _ _ _ (fun e=>hn (e ▸ hp))⟩
theorem Turned.alloc {S:List Nat} {a w:World} (h:Turned S a w) (o:Obj):Turned S a (w.alloc o):=
 h.trans ⟨rfl,rfl,rfl,by simp,fun k hk _=>Below.heap_alloc _ _ _ hk⟩
theorem Turned.drew {S:List Nat} {a w:World} (h:Turned S a w):Turned S a w.drew:=⟨h.os,h.tape,h.output,h.size,h.block⟩
theorem Turned.of_below {S:List Nat} {w w':World} (h:Below w.heap.size w w'):Turned S w w':=⟨h.os,h.tape,h.output,h.size,fun k hk _=>h.block k hk⟩
theorem Turned.below {S:List Nat} {w w':World} {B:Nat} (h:Turned S w w') (hB:B ≤ w.heap.size) (hS:∀ k ∈ S,B ≤ k):Below B w w':=
 ⟨h.os,h.tape,h.output,h.size,fun k hk=>h.block k (Nat.lt_of_lt_of_le hk hB) (fun hm=>by have:=hS k hm;omega)⟩
theorem Turned.mono {S S':List Nat} {w w':World} (h:Turned S w w') (hS:∀ k ∈ S,k ∈ S'):Turned S' w w':=
 ⟨h.os,h.tape,h.output,h.size,fun k hk hn=>h.block k hk (fun hm=>hn (hS k hm))⟩
theorem Turned.kept {S:List Nat} {w w':World} (h:Turned S w w') {b:Nat} {o:Obj} (hb:w.heap[b]? = some o) (hn:b ∉ S):w'.heap[b]? = some o:=by
 rw [h.block b (Array.getElem?_eq_some_iff.1 hb).1 hn,hb]
theorem Turned.cell {S:List Nat} {w w':World} (h:Turned S w w') {a:Addr} {v:Value} (hc:w.cell? a = some v) (hn:a.block ∉ S):w'.cell? a = some v:=by
 rw [World.cell?_of_block (w:=w) (h.block a.block (World.block_lt_of_cell? w a hc) hn),hc]
theorem blk_lt {w:World} {b:Nat} {o:Obj} (h:w.heap[b]? = some o):b < w.heap.size:=(Array.getElem?_eq_some_iff.1 h).1
theorem blk_cell {w:World} {b:Nat} {cs:Array Value} {t:TypeId} {fr:Nat × Nat} (h:w.heap[b]? = some (.cells cs t fr)) (i:Nat):w.cell? ⟨b,i,none⟩ = cs[i]?:=by simp [World.cell?,h]
theorem blk_free {w:World} {b:Nat} {cs:Array Value} {t:TypeId} (h:w.heap[b]? = some (.cells cs t (0,0))) (i:Nat):w.frozen? ⟨b,i,none⟩ = false:=by simp [World.frozen?,h]
theorem blk_set {w:World} {b:Nat} {cs:Array Value} {t:TypeId} {fr:Nat × Nat} (h:w.heap[b]? = some (.cells cs t fr)) (i:Nat) (v:Value) :
  (w.setCell ⟨b,i,none⟩ v).heap[b]? = some (.cells (cs.setIfInBounds i v) t fr):=by
 simp [World.setCell,Array.getElem?_modify,h]
theorem blk_other {w:World} {b k:Nat} (h:b ≠ k) (i:Nat) (v:Value):(w.setCell ⟨k,i,none⟩ v).heap[b]? = w.heap[b]?:=Below.heap_setCell _ _ _ _ h
theorem blk_new (w:World) (o:Obj):(w.alloc o).heap[w.heap.size]? = some o:=heap_alloc_new w o
theorem blk_old {w:World} {b:Nat} {o:Obj} (h:w.heap[b]? = some o) (o':Obj):(w.alloc o').heap[b]? = some o:=by rw [Below.heap_alloc _ _ _ (blk_lt h),h]
theorem blk_below {w w':World} {b:Nat} {o:Obj} (h:w.heap[b]? = some o) (hb:Below w.heap.size w w'):w'.heap[b]? = some o:=by rw [hb.block b (blk_lt h),h]
end Go.Proofs.YtifhnpkapgaboaaGreat.heap
namespace Go.Proofs.YtifhnpkapgaboaaGreat.path
def piecesL:List UInt8 → List (List UInt8)
 | [] => [[]]
 | c :: r=>if c = 47 then [] :: piecesL r else match piecesL r with
  | [] => [[c]]
  | p :: ps=>(c :: p) :: ps
theorem piecesL_ne (l:List UInt8):piecesL l ≠ []:=by
 cases l with
 | nil=>simp [piecesL]
 | cons c r =>
  unfold piecesL
  split
  ·simp
  ·split <;> simp
theorem pieces_no (l:List UInt8) (h:(47:UInt8) ∉ l):piecesL l = [l]:=by
 induction l with
 | nil=>rfl
 | cons c r ih =>
  rw [List.mem_cons,not_or] at h
  rw [piecesL,if_neg (fun e=>h.1 e.symm),ih h.2]
theorem pieces_yes (a b:List UInt8) (h:(47:UInt8) ∉ a):piecesL (a ++ 47 :: b) = a :: piecesL b:=by
 induction a with
 | nil=>simp [piecesL]
 | cons c r ih =>
  rw [List.mem_cons,not_or] at h
  rw [List.cons_append,piecesL,if_neg (fun e=>h.1 e.symm),ih h.2]
theorem cut_at (l:List UInt8):(47:UInt8) ∉ l ∨ ∃ a b,l = a ++ 47 :: b ∧ (47:UInt8) ∉ a:=by
 induction l with
 | nil=>left;simp
 | cons c r ih =>
  by_cases hc:c = 47
  ·subst hc;exact .inr ⟨[],r,rfl,by simp⟩
  ·rcases ih with h | ⟨a,b,rfl,h⟩
   ·left
    rw [List.mem_cons,not_or]
    exact ⟨fun e=>hc e.symm,h⟩
   ·right
    refine ⟨c :: a,b,rfl,?_⟩
    rw [List.mem_cons,not_or]
    exact ⟨fun e=>hc e.symm,h⟩
theorem pieces_bd (l:List UInt8):(piecesL l).length ≤ l.length + 1 ∧ ∀ p ∈ piecesL l,p.length ≤ l.length ∧ (47:UInt8) ∉ p:=by
 induction l with
 | nil=>simp [piecesL]
 | cons c r ih =>
  unfold piecesL
  split
  ·refine ⟨by simp;omega,fun p hp => ?_⟩
   rcases List.mem_cons.1 hp with rfl | hp
   ·simp
   ·have:=ih.2 p hp;exact ⟨by simp;omega,this.2⟩
  ·rename_i hc
   split
   ·rename_i h;exact absurd h (piecesL_ne r)
   ·rename_i q qs h
    rw [h] at ih
    refine ⟨by have:=ih.1;simp at this ⊢;omega,fun p hp => ?_⟩
    rcases List.mem_cons.1 hp with rfl | hp
    ·have:=ih.2 q (List.mem_cons_self ..)
     refine ⟨by simp;omega,?_⟩
     rw [List.mem_cons,not_or]
     exact ⟨fun e=>hc e.symm,this.2⟩
    ·have:=ih.2 p (List.mem_cons_of_mem _ hp)
     exact ⟨by simp;omega,this.2⟩
def nameE (l:List UInt8):Int:=if l = [] then 400 else if l.length > 16 ∨ l = [46] ∨ l = [46,46] ∨ (47:UInt8) ∈ l ∨ (0:UInt8) ∈ l then 401 else 0
def cleanB (l:List UInt8):Bool:=decide (l = []) || (decide (∀ p ∈ piecesL l,nameE p = 0) && decide ((piecesL l).length ≤ 8) && decide (l.length ≤ 140))
def partsL (l:List UInt8):List (List UInt8):=if l = [] then [] else piecesL l
def stepW (way:List (List UInt8)) (p:List UInt8):Option (List (List UInt8)):=
 if p = [] ∨ p = [46] then some way else if p = [46,46] then some way.dropLast else if nameE p ≠ 0 then none else some (way ++ [p])
def wayW:List (List UInt8) → List (List UInt8) → Option (List (List UInt8))
 | way,[]=>some way
 | way,p :: ps=>match stepW way p with
  | none=>none
  | some way'=>wayW way' ps
theorem wayW_snoc (way ps:List (List UInt8)) (p:List UInt8):wayW way (ps ++ [p]) = (wayW way ps).bind fun v=>stepW v p:=by
 induction ps generalizing way with
 | nil=>simp only [List.nil_append,wayW,Option.bind_some];cases stepW way p <;> rfl
 | cons q qs ih =>
  simp only [List.cons_append,wayW]
  cases stepW way q with
  | none=>rfl
  | some v=>exact ih v
def joinL (xs:List (List UInt8)):List UInt8 := [47].intercalate xs
def startW (cwd s:List UInt8):List (List UInt8):=if s.head? = some 47 then [] else partsL cwd
def cleanR (cwd s:List UInt8):List UInt8 × Int:=
 if cleanB cwd = false then ([],401) else if s = [] then ([],400) else if s.length > 560 then ([],403) else
 match wayW (startW cwd s) (piecesL s) with
 | none=>([],401)
 | some way=>if way.length > 8 then ([],402) else if (joinL way).length > 140 then ([],403) else (joinL way,0)
end Go.Proofs.YtifhnpkapgaboaaGreat.path
