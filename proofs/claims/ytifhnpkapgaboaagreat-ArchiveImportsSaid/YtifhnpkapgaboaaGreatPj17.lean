/-
  Proved: entries struck out of a map; a loop over a map that strikes some of them out (plain). Conditions: aq each theorem says. No program is in sight.
-/
import Derived.Test.YtifhnpkapgaboaaGreatPj16
set_option linter.unusedVariables false
set_option linter.unusedSimpArgs false
namespace Go.Proofs.YtifhnpkapgaboaaGreat.maps
open Go.RowKit
open heap
theorem look_zero {k:Nm} {l:List (Nm × Value)} {j:Nat} {v:Value} (h:look k l 0 = some (j,v)):l[j]? = some (k,v):=by
 have:=(look_at h).2
 rwa [Nat.sub_zero] at this
theorem erase_del (k:Nm):∀ (l:List (Nm × Value)) (j:Nat) (v:Value),(l.map (·.1)).Nodup → l[j]? = some (k,v) → l.eraseIdx j = del k l
 | [],j,v,_,h=>by cases h
 | x :: l,0,v,hn,h=>by
  simp only [List.getElem?_cons_zero,Option.some.injEq] at h
  subst h
  simp only [List.map_cons,List.nodup_cons] at hn
  have:del k l = l:=by
   unfold del
   rw [List.filter_eq_self]
   intro y hy
   simp only [ne_eq,decide_not,Bool.not_eq_eq_eq_not,Bool.not_true,decide_eq_false_iff_not]
   exact fun e=>hn.1 (e ▸ List.mem_map_of_mem hy)
  unfold del at this ⊢
  rw [List.filter_cons_of_neg (by simp),this]
  rfl
 | x :: l,j + 1,v,hn,h=>by
  simp only [List.map_cons,List.nodup_cons] at hn
  simp only [List.getElem?_cons_succ] at h
  have ih:=erase_del k l j v hn.2 h
  have hx:x.1 ≠ k:=fun e=>hn.1 (by rw [e];exact List.mem_map.2 ⟨_,List.mem_of_getElem? h,rfl⟩)
  unfold del at ih ⊢
  rw [List.filter_cons_of_pos (by simpa using hx),List.eraseIdx_cons_succ,ih]
theorem map_erase {α β:Type} (f:α → β):∀ (l:List α) (j:Nat),(l.map f).eraseIdx j = (l.eraseIdx j).map f
 | [],j=>by simp
 | x :: l,0=>rfl
 | x :: l,j + 1=>by simp only [List.map_cons,List.eraseIdx_cons_succ,map_erase f l j]
theorem MapC.key {es:Array MapEntry} {clock:Nat} {l:List (Nm × Value)} (h:MapC es clock l) {e:MapEntry} (he:e ∈ es.toList):∃ x ∈ l,e.key = .string ⟨x.1.toArray⟩ ∧ e.val = x.2:=by
 have:(e.key,e.val) ∈ es.toList.map (fun e=>(e.key,e.val)):=List.mem_map.2 ⟨e,he,rfl⟩
 rw [h.1] at this
 obtain ⟨x,hx,hxe⟩:=List.mem_map.1 this
 simp only [Prod.mk.injEq] at hxe
 exact ⟨x,hx,hxe.1.symm,hxe.2.symm⟩
theorem MapC.has {es:Array MapEntry} {clock:Nat} {l:List (Nm × Value)} (h:MapC es clock l) {x:Nm × Value} (hx:x ∈ l):∃ e ∈ es.toList,e.key = .string ⟨x.1.toArray⟩ ∧ e.val = x.2:=by
 have:(Value.string ⟨x.1.toArray⟩,x.2) ∈ l.map (fun x=>(Value.string ⟨x.1.toArray⟩,x.2)):=List.mem_map.2 ⟨x,hx,rfl⟩
 rw [← h.1] at this
 obtain ⟨e,he,hxe⟩:=List.mem_map.1 this
 simp only [Prod.mk.injEq] at hxe
 exact ⟨e,he,hxe.1,hxe.2⟩
section
variable {P:Program} {t kt et:TypeId}
theorem run_deleteC {w:World} {b:Nat} {es:Array MapEntry} {clock:Nat} {l:List (Nm × Value)} (hb:w.heap[b]? = some (.map es clock)) (h:MapC es clock l) (ht:P.underlying t = some (.map kt et)) (hk:P.underlying kt = some .string) (k:Nm) (t2 ty:TypeId) :
  ∃ es',(Builtin.delete_ #[t,t2] ty #[.map (some b),.string ⟨k.toArray⟩]).run P w = .ok (.tuple #[]) { w with heap:=w.heap.setIfInBounds b (.map es' clock) } ∧ MapC es' clock (del k l) ∧ es'.toList.Sublist es.toList ∧ (∀ e ∈ es.toList,e ∈ es'.toList ∨ e.key = .string ⟨k.toArray⟩):=by
 obtain ⟨h2,h3,h4,h5⟩:=h
 have hc:∀ e,(Instr.checkKey e 10000 kt (.string ⟨k.toArray⟩)).run P w = .ok () w:=fun e=>MapKept.run_checkKey (k:=.string ⟨k.toArray⟩) hk (by simp [MapKept.IsKey]) e 9999
 have hf:=find_s k es.toList l 0 h2
 cases hl:look k l 0 with
 | none =>
  rw [hl] at hf
  have hd:del k l = l:=by
   unfold del
   rw [List.filter_eq_self]
   intro y hy
   simpa using look_none hl y hy
  rw [hd]
  exact ⟨es,by simp [Builtin.delete_,run_underlying ht,MapKept.run_getObj_map hb,hc,MapKept.run_findKey hk hf,MapKept.run_setObj_map _ hb,Result.andThen],⟨h2,h3,h4,h5⟩,List.Sublist.refl _,fun e he=>.inl he⟩
 | some r =>
  obtain ⟨j,u⟩:=r
  rw [hl] at hf
  have hj:=look_zero hl
  have hd:=erase_del k l j u h3 hj
  have ht:(es.eraseIdxIfInBounds j).toList = es.toList.eraseIdx j:=by simp
  have hsub:(es.toList.eraseIdx j).Sublist es.toList:=List.eraseIdx_sublist ..
  refine ⟨es.eraseIdxIfInBounds j,by simp [Builtin.delete_,run_underlying ‹P.underlying t = _›,MapKept.run_getObj_map hb,hc,MapKept.run_findKey hk hf,MapKept.run_setObj_map _ hb,Result.andThen],⟨?_,?_,?_,?_⟩,?_,?_⟩
  ·rw [ht,← map_erase,h2,map_erase,hd]
  ·rw [← hd]
   exact h3.sublist ((List.eraseIdx_sublist ..).map _)
  ·rw [ht];exact h4.sublist (hsub.map _)
  ·rw [ht];exact fun e he=>h5 e (hsub.subset he)
  ·rw [ht];exact hsub
  ·intro e he
   rw [ht]
   obtain ⟨i,hi⟩:=List.mem_iff_getElem?.1 he
   by_cases hij:i = j
   ·right
    subst hij
    have e1:(es.toList.map (fun e=>(e.key,e.val)))[i]? = (l.map (fun x=>(Value.string ⟨x.1.toArray⟩,x.2)))[i]?:=by rw [h2]
    rw [List.getElem?_map,List.getElem?_map,hi,hj] at e1
    simp at e1
    exact e1.1
   ·left
    exact List.mem_eraseIdx_iff_getElem?.2 ⟨i,hij,hi⟩
theorem run_deleteB {w:World} {b:Nat} {l:List (Nm × Value)} (h:MapB w b l) (ht:P.underlying t = some (.map kt et)) (hk:P.underlying kt = some .string) (k:Nm) (t2 ty:TypeId) :
  ∃ w',(Builtin.delete_ #[t,t2] ty #[.map (some b),.string ⟨k.toArray⟩]).run P w = .ok (.tuple #[]) w' ∧ MapB w' b (del k l) ∧ Turned [b] w w':=by
 obtain ⟨es,c,h1,h2⟩:=h
 have hb:b < w.heap.size:=(Array.getElem?_eq_some_iff.1 h1).1
 obtain ⟨es',hr,hc,-⟩:=run_deleteC h1 h2 ht hk k t2 ty
 exact ⟨_,hr,⟨es',c,by show (w.heap.setIfInBounds b _)[b]? = _;rw [Array.getElem?_setIfInBounds,if_pos rfl,if_pos hb],hc⟩,turned_setObj _ _ _⟩
end
def Rng (w:World) (r b:Nat) (K:Nm → Bool) (l:List (Nm × Value)) (n:Nat):Prop:=
 ∃ (es:Array MapEntry) (clock:Nat) (seen:Array Nat),w.heap[r]? = some (.mapIter (some b) clock seen clock) ∧ w.heap[b]? = some (.map es clock) ∧ MapC es clock l ∧
  (∀ e ∈ es.toList,seen.contains e.born = true → ∀ k,e.key = .string ⟨k.toArray⟩ → K k = true) ∧ (leftOf es seen).size ≤ n
def RngAt (w:World) (r b:Nat) (K:Nm → Bool) (l:List (Nm × Value)) (k:Nm) (n:Nat):Prop:=
 ∃ (es:Array MapEntry) (clock:Nat) (seen:Array Nat) (e:MapEntry),w.heap[r]? = some (.mapIter (some b) clock (seen.push e.born) clock) ∧ w.heap[b]? = some (.map es clock) ∧ MapC es clock l ∧
  e ∈ es.toList ∧ e.key = .string ⟨k.toArray⟩ ∧ (∀ e ∈ es.toList,seen.contains e.born = true → ∀ k,e.key = .string ⟨k.toArray⟩ → K k = true) ∧ (leftOf es (seen.push e.born)).size ≤ n
theorem Rng.b {w:World} {r b n:Nat} {K:Nm → Bool} {l:List (Nm × Value)} (h:Rng w r b K l n):MapB w b l:=by
 obtain ⟨es,c,s,h1,h2,h3,-⟩:=h
 exact ⟨es,c,h2,h3⟩
theorem RngAt.b {w:World} {r b n:Nat} {K:Nm → Bool} {l:List (Nm × Value)} {k:Nm} (h:RngAt w r b K l k n):MapB w b l:=by
 obtain ⟨es,c,s,e,h1,h2,h3,-⟩:=h
 exact ⟨es,c,h2,h3⟩
theorem Rng.turned {w w':World} {r b n:Nat} {K:Nm → Bool} {l:List (Nm × Value)} {S:List Nat} (h:Rng w r b K l n) (ht:Turned S w w') (hr:r ∉ S) (hb:b ∉ S):Rng w' r b K l n:=by
 obtain ⟨es,c,s,h1,h2,h3⟩:=h
 exact ⟨es,c,s,ht.kept h1 hr,ht.kept h2 hb,h3⟩
theorem RngAt.turned {w w':World} {r b n:Nat} {K:Nm → Bool} {l:List (Nm × Value)} {k:Nm} {S:List Nat} (h:RngAt w r b K l k n) (ht:Turned S w w') (hr:r ∉ S) (hb:b ∉ S):RngAt w' r b K l k n:=by
 obtain ⟨es,c,s,e,h1,h2,h3⟩:=h
 exact ⟨es,c,s,e,ht.kept h1 hr,ht.kept h2 hb,h3⟩
theorem born_key {es:Array MapEntry} {clock:Nat} {l:List (Nm × Value)} (h:MapC es clock l) {e x:MapEntry} (he:e ∈ es.toList) (hx:x ∈ es.toList) (hb:e.born = x.born):e = x:=by
 obtain ⟨i,hi⟩:=List.mem_iff_getElem?.1 he
 obtain ⟨j,hj⟩:=List.mem_iff_getElem?.1 hx
 have hn:=h.2.2.1
 have:i = j:=by
  unfold List.Nodup at hn
  rw [List.pairwise_iff_getElem] at hn
  obtain ⟨hil,hie⟩:=List.getElem?_eq_some_iff.1 hi
  obtain ⟨hjl,hje⟩:=List.getElem?_eq_some_iff.1 hj
  rcases Nat.lt_trichotomy i j with h1 | h1 | h1
  ·exact absurd (by rw [List.getElem_map,List.getElem_map,hie,hje,hb]) (hn i j (by simpa using hil) (by simpa using hjl) h1)
  ·exact h1
  ·exact absurd (by rw [List.getElem_map,List.getElem_map,hie,hje,hb]) (hn j i (by simpa using hjl) (by simpa using hil) h1)
 subst this
 rw [hi] at hj
 exact Option.some.inj hj
theorem left_size (es:Array MapEntry) (seen:Array Nat):(leftOf es seen).size = (es.toList.filter fun e => !seen.contains e.born).length:=by
 unfold leftOf
 rw [← Array.length_toList,Array.toList_filter]
theorem RngAt.keep {w:World} {r b n:Nat} {K:Nm → Bool} {l:List (Nm × Value)} {k:Nm} (h:RngAt w r b K l k n) (hk:K k = true):Rng w r b K l n:=by
 obtain ⟨es,c,s,e,h1,h2,h3,h4,h5,h6,h7⟩:=h
 refine ⟨es,c,s.push e.born,h1,h2,h3,fun x hx hs q hq => ?_,h7⟩
 by_cases hb:x.born = e.born
 ·have:=born_key h3 hx h4 hb
  subst this
  rw [h5] at hq
  have:=str_inj.1 (Value.string.inj hq)
  rw [← this]
  exact hk
 ·refine h6 x hx ?_ q hq
  simp only [Array.contains_push,Bool.or_eq_true,beq_iff_eq] at hs
  exact hs.resolve_right (fun e=>hb e)
section
variable {P:Program} {t kt et:TypeId}
theorem Rng.start {w:World} {b:Nat} {l:List (Nm × Value)} (h:MapB w b l) (K:Nm → Bool) (ht:P.underlying t = some (.map kt et)) :
  ∃ o,(Instr.range t (.map (some b))).run P w = .ok (.pointer (some ⟨w.heap.size,0,none⟩)) (w.alloc o) ∧ Rng (w.alloc o) w.heap.size b K l l.length:=by
 obtain ⟨es,c,h1,h2⟩:=h
 have hl:es.toList.length = l.length:=by simpa using congrArg List.length h2.1
 refine ⟨.mapIter (some b) c #[] c,by simp [Instr.range,run_underlying ht,MapKept.run_getObj_map h1,Result.andThen,newObj,Sem.run],es,c,#[],blk_new _ _,blk_old h1 _,h2,fun e _ hs=>by simp at hs,?_⟩
 rw [left_size,← hl]
 exact List.length_filter_le _ _
theorem Rng.next {w:World} {r b n:Nat} {K:Nm → Bool} {l:List (Nm × Value)} (h:Rng w r b K l n) (ty:TypeId) :
  ((∀ x ∈ l,K x.1 = true) ∧ (Instr.next (.pointer (some ⟨r,0,none⟩)) false ty).run P w = .ok (.tuple #[.bool false]) w) ∨
  ∃ k v w',(∃ x ∈ l,x.1 = k) ∧ (Instr.next (.pointer (some ⟨r,0,none⟩)) false ty).run P w = .ok (.tuple #[.bool true,.string ⟨k.toArray⟩,v]) w' ∧ Turned [r] w w' ∧ 0 < n ∧ RngAt w' r b K l k (n - 1):=by
 obtain ⟨es,c,s,h1,h2,h3,h4,h5⟩:=h
 have hrl:=blk_lt h1
 rcases run_next_at (P:=P) w ty r b c c s es c h1 h2 h3.2.2.2 (Nat.le_refl _) with ⟨h0,hr⟩ | ⟨e,he,w1,hw1,hr⟩
 ·left
  refine ⟨fun x hx => ?_,hr⟩
  obtain ⟨e,he,hke,-⟩:=h3.has hx
  refine h4 e he ?_ x.1 hke
  rw [left_size] at h0
  cases hs:s.contains e.born with
  | true=>rfl
  | false =>
   have:e ∈ es.toList.filter fun e => !s.contains e.born:=List.mem_filter.2 ⟨he,by rw [hs];rfl⟩
   rw [List.length_eq_zero_iff.1 h0] at this
   cases this
 ·right
  have he2:e ∈ es.toList ∧ s.contains e.born = false:=by
   unfold leftOf at he
   rw [Array.toList_filter,List.mem_filter] at he
   simpa using he
  obtain ⟨x,hx,hk,hv⟩:=h3.key he2.1
  rw [hk,hv] at hr
  have htur:Turned [r] w (ChangeMaps.setBlock w1 r (.mapIter (some b) c (s.push e.born) c)):=by
   rcases hw1 with rfl | rfl
   ·exact turned_setObj _ _ _
   ·exact ((Turned.refl [r] w).drew).trans (turned_setObj _ _ _)
  have hlen:(leftOf es (s.push e.born)).size + 1 ≤ (leftOf es s).size:=by
   rw [left_size,left_size]
   have hsp:=List.append_of_mem he2.1
   obtain ⟨aq,bs,hab⟩:=hsp
   rw [hab]
   simp only [List.filter_append,List.length_append]
   have hm:∀ (q:List MapEntry),(q.filter fun x => !(s.push e.born).contains x.born).length ≤ (q.filter fun x => !s.contains x.born).length:=fun q=>by
    have:q.filter (fun x => !(s.push e.born).contains x.born) = (q.filter fun x => !s.contains x.born).filter fun x => !(s.push e.born).contains x.born:=by
     rw [List.filter_filter]
     congr 1
     funext x
     simp only [Array.contains_push]
     cases s.contains x.born <;> simp
    rw [this]
    exact List.length_filter_le _ _
   have g1:=hm aq
   have g2:=hm bs
   rw [List.filter_cons_of_neg (by simp [Array.contains_push]),List.filter_cons_of_pos (by simp only [he2.2];rfl)]
   simp only [List.length_cons]
   omega
  have hrb:r ≠ b:=fun e=>by rw [e,h2] at h1;cases h1
  refine ⟨x.1,x.2,_,⟨x,hx,rfl⟩,hr,htur,by omega,es,c,s,e,?_,?_,h3,he2.1,hk,h4,by omega⟩
  ·have:w1.heap = w.heap:=by rcases hw1 with rfl | rfl <;> rfl
   show (w1.heap.setIfInBounds r _)[r]? = _
   rw [this,Array.getElem?_setIfInBounds,if_pos rfl,if_pos hrl]
  ·exact htur.kept h2 (by simp;exact fun e=>hrb e.symm)
theorem RngAt.entry {w:World} {r b n:Nat} {K:Nm → Bool} {l:List (Nm × Value)} {k:Nm} (h:RngAt w r b K l k n):∃ v,(Instr.entry (.pointer (some ⟨r,0,none⟩))).run P w = .ok (.tuple #[.string ⟨k.toArray⟩,v]) w:=by
 obtain ⟨es,c,s,e,h1,h2,h3,h4,h5,h6⟩:=h
 have hr:=run_entry_at (P:=P) w r b c s es c e h1 h2 h4 h3.2.2.1
 rw [h5] at hr
 exact ⟨e.val,hr⟩
theorem RngAt.drop {w:World} {r b n:Nat} {K:Nm → Bool} {l:List (Nm × Value)} {k:Nm} (h:RngAt w r b K l k n) (ht:P.underlying t = some (.map kt et)) (hk:P.underlying kt = some .string) (t2 ty:TypeId) :
  ∃ w',(Builtin.delete_ #[t,t2] ty #[.map (some b),.string ⟨k.toArray⟩]).run P w = .ok (.tuple #[]) w' ∧ Rng w' r b K (del k l) n ∧ Turned [b] w w':=by
 obtain ⟨es,c,s,e,h1,h2,h3,h4,h5,h6,h7⟩:=h
 have hb:b < w.heap.size:=(Array.getElem?_eq_some_iff.1 h2).1
 have hrb:r ≠ b:=fun e=>by rw [e,h2] at h1;cases h1
 obtain ⟨es',hr,hc,hsub,hall⟩:=run_deleteC h2 h3 ht hk k t2 ty
 have htur:=turned_setObj w b (.map es' c)
 refine ⟨_,hr,⟨es',c,s.push e.born,htur.kept h1 (by simp;exact hrb),by show (w.heap.setIfInBounds b _)[b]? = _;rw [Array.getElem?_setIfInBounds,if_pos rfl,if_pos hb],hc,fun x hx hs q hq => ?_,?_⟩,htur⟩
 ·obtain ⟨y,hy,hky,-⟩:=hc.key hx
  by_cases hbe:x.born = e.born
  ·exfalso
   have:=born_key h3 (hsub.subset hx) h4 hbe
   subst this
   rw [h5] at hky
   have hyk:=str_inj.1 (Value.string.inj hky)
   unfold del at hy
   rw [List.mem_filter] at hy
   simp [hyk] at hy
  ·refine h6 x (hsub.subset hx) ?_ q hq
   simp only [Array.contains_push,Bool.or_eq_true,beq_iff_eq] at hs
   exact hs.resolve_right (fun e=>hbe e)
 ·rw [left_size] at h7 ⊢
  exact Nat.le_trans (hsub.filter _).length_le h7
end
end Go.Proofs.YtifhnpkapgaboaaGreat.maps
