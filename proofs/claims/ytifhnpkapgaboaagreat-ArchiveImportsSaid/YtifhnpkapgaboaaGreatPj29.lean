/-
  Proved: the program's field and the document's tree hold the same paths and kinds, whatever entry is applied (plain). Conditions: as each theorem says. No program is in sight.
-/
import Derived.Test.YtifhnpkapgaboaaGreatPj28
import Derived.Test.YtifhnpkapgaboaaGreatPj22
set_option linter.unusedVariables false
set_option linter.unusedSimpArgs false
namespace Go.Proofs.YtifhnpkapgaboaaGreat.doc
open Go Go.RowKit
open fld
open arch (Ent e0)
open path (joinL piecesL partsL nameE good_no joinL_cons joinL_one joinL_nil joinL_snoc joinL_ne pieces_join parts_join)
def Good (ps:List Nm):Prop:=∀ p ∈ ps,nameE p = 0
theorem Good.left {a b:List Nm} (h:Good (a ++ b)):Good a:=fun p hp=>h p (List.mem_append_left _ hp)
theorem Good.right {a b:List Nm} (h:Good (a ++ b)):Good b:=fun p hp=>h p (List.mem_append_right _ hp)
theorem join_inj {a b:List Nm} (ha:Good a) (hb:Good b) (h:joinL a = joinL b):a = b:=by
 rw [← parts_join a ha,← parts_join b hb,h]
theorem join_app:∀ (us vs:List Nm),us ≠ [] → vs ≠ [] → joinL (us ++ vs) = joinL us ++ 47 :: joinL vs:=by
 intro us
 induction us with
 | nil=>intro vs h;exact absurd rfl h
 | cons u us ih =>
  intro vs _ hv
  cases us with
  | nil =>
   cases vs with
   | nil=>exact absurd rfl hv
   | cons v vs=>rw [List.cons_append,List.nil_append,joinL_cons,joinL_one]
  | cons u2 us=>rw [List.cons_append,List.cons_append,joinL_cons,← List.cons_append,ih vs (by simp) hv,joinL_cons,List.append_assoc,List.cons_append]
theorem above_join (qs:List Nm) (n:Nm) (h:Good (qs ++ [n])):aboveP (joinL (qs ++ [n])) = joinL qs:=by
 have hn:=good_no (h n (by simp))
 have h47:(47:UInt8) ∉ n:=hn.2.1
 unfold aboveP
 by_cases hq:qs = []
 ·subst hq
  rw [List.nil_append,joinL_one,joinL_nil]
  rcases Lib.lastIndexByte_spec ⟨n.toArray⟩ 47 with ⟨e,-⟩ | ⟨i,hi,e,hc,-⟩
  ·rw [e];rfl
  ·exfalso
   have hi':i < n.length:=by simpa [ByteArray.size] using hi
   have e1:n[i] = 47:=by
    have:(n.toArray[i]!) = n[i]:=by simp [hi']
    rw [show (ByteArray.mk n.toArray).data[i]! = n[i] from this] at hc
    exact UInt8.toNat_inj.1 (by have:(47:UInt8).toNat = 47:=rfl;omega)
   exact h47 (e1 ▸ List.getElem_mem _)
 ·rw [joinL_snoc _ _ hq]
  generalize joinL qs = a
  have hl:(a ++ 47 :: n).length = a.length + 1 + n.length:=by simp;omega
  rcases Lib.lastIndexByte_spec ⟨(a ++ 47 :: n).toArray⟩ 47 with ⟨e,hno⟩ | ⟨i,hi,e,hc,hgt⟩
  ·exfalso
   have:=hno a.length (by simp [ByteArray.size])
   simp at this
  ·have hi':i < (a ++ 47 :: n).length:=by simpa [ByteArray.size] using hi
   have hle:a.length ≤ i:=by
    refine Nat.le_of_not_lt fun hlt => ?_
    have:=hgt a.length hlt (by simp [ByteArray.size])
    simp at this
   have hia:i = a.length:=by
    refine Nat.le_antisymm (Nat.le_of_not_lt fun hlt => ?_) hle
    obtain ⟨j,rfl⟩:∃ j,i = a.length + 1 + j:=⟨i - a.length - 1,by omega⟩
    have hj:j < n.length:=by omega
    have e2:(a ++ 47 :: n)[a.length + 1 + j]'hi' = n[j]:=by
     rw [List.getElem_append_right (by omega)]
     have:a.length + 1 + j - a.length = j + 1:=by omega
     simp [this]
    have:((a ++ 47 :: n).toArray[a.length + 1 + j]!) = n[j]:=by
     rw [← e2,getElem!_pos _ _ (by simpa using hi')]
     simp only [List.getElem_toArray]
    rw [show (ByteArray.mk (a ++ 47 :: n).toArray).data[a.length + 1 + j]! = n[j] from this] at hc
    have:n[j] = 47:=UInt8.toNat_inj.1 (by have:(47:UInt8).toNat = 47:=rfl;omega)
    exact h47 (this ▸ List.getElem_mem _)
   rw [e,hia]
   have:(max 0 ((a.length:Nat):Int)).toNat = a.length:=by omega
   rw [this,List.take_left]
theorem pieces_app (a b:Nm):piecesL (a ++ 47 :: b) = piecesL a ++ piecesL b:=by
 generalize hk:a.length = k
 induction k using Nat.strongRecOn generalizing a with
 | _ k ih =>
  rcases path.cut_at a with h | ⟨x,y,rfl,hx⟩
  ·rw [path.pieces_yes _ _ h,path.pieces_no _ h];rfl
  ·rw [List.append_assoc,List.cons_append,path.pieces_yes _ _ hx,path.pieces_yes _ _ hx]
   rw [ih y.length (by rw [← hk];simp;omega) y rfl]
   rfl
theorem sub_join (ps qs:List Nm) (hp:Good ps) (hq:Good qs) (h0:ps ≠ []):subB (joinL ps) (joinL qs) = true ↔ ps <+: qs ∧ ps ≠ qs:=by
 unfold subB
 rw [List.isPrefixOf_iff_prefix]
 constructor
 ·rintro ⟨t,ht⟩
  rw [List.append_assoc,List.singleton_append] at ht
  have hqn:qs ≠ []:=fun e=>by rw [e,joinL_nil] at ht;simp at ht
  have e:=congrArg piecesL ht
  rw [pieces_app,pieces_join ps hp h0,pieces_join qs hq hqn] at e
  refine ⟨⟨_,e⟩,fun e2 => ?_⟩
  rw [e2] at e
  have:=List.append_right_eq_self.1 e
  exact path.piecesL_ne t this
 ·rintro ⟨⟨u,rfl⟩,hne⟩
  have hu:u ≠ []:=fun e=>hne (by rw [e,List.append_nil])
  rw [join_app ps u h0 hu]
  exact ⟨joinL u,by simp⟩
section
variable {α β:Type}
theorem getA_find (g:α → Nm) (v:α → β) (k:Nm):∀ l:List α,getA k (l.map fun x=>(g x,v x)) = (l.find? fun x=>decide (g x = k)).map v
 | []=>rfl
 | x :: r=>by
  rw [List.map_cons,getA,List.find?_cons]
  by_cases h:k = g x
  ·rw [if_pos h,decide_eq_true h.symm];rfl
  ·rw [if_neg h,decide_eq_false (fun e=>h e.symm)];exact getA_find g v k r
theorem updA_new (k:Nm) (v:α):∀ l:List (Nm × α),getA k l = none → updA k v l = l ++ [(k,v)]
 | [],_=>rfl
 | x :: r,h=>by
  rw [getA] at h
  rw [updA]
  by_cases e:k = x.1
  ·rw [if_pos e] at h;cases h
  ·rw [if_neg e] at h ⊢
   rw [updA_new k v r h];rfl
theorem getA_upd (k j:Nm) (v:α):∀ l:List (Nm × α),getA j (updA k v l) = if j = k then some v else getA j l
 | []=>by
  show (if j = k then some v else none) = _
  split <;> rfl
 | x :: r=>by
  rw [updA]
  by_cases e:k = x.1
  ·rw [if_pos e,getA,getA,← e]
   split <;> rfl
  ·rw [if_neg e,getA,getA,getA_upd k j v r]
   by_cases e2:j = x.1
   ·rw [if_pos e2,if_pos e2,if_neg (fun e3=>e (e3.symm.trans e2))]
   ·rw [if_neg e2,if_neg e2]
theorem getA_filter (P:Nm → Bool) (j:Nm):∀ l:List (Nm × α),getA j (l.filter fun x=>P x.1) = if P j then getA j l else none
 | []=>by rw [List.filter_nil];show none = if _ then none else none;split <;> rfl
 | x :: r=>by
  by_cases h:P x.1 = true
  ·rw [List.filter_cons_of_pos (p:=fun x:Nm × α=>P x.1) h,getA,getA,getA_filter P j r]
   by_cases e:j = x.1
   ·rw [if_pos e,if_pos e,e,if_pos h]
   ·rw [if_neg e,if_neg e]
  ·rw [List.filter_cons_of_neg (p:=fun x:Nm × α=>P x.1) h,getA_filter P j r,getA]
   by_cases e:j = x.1
   ·rw [e,if_neg h,if_neg h]
   ·rw [if_neg e]
end
structure Rel (F:Fld) (M:DM):Prop where
 wf:WF M
 good:∀ x ∈ M,Good x.ps
 eq:kd F.nodes = M.tail.map fun x=>(joinL x.ps,x.kind)
 kid:∀ x ∈ M,kidOf F (joinL x.ps) = (x.names.length:Int)
 no:∀ p,(∀ x ∈ M,joinL x.ps ≠ p) → kidOf F p = 0
theorem Rel.get {F:Fld} {M:DM} (h:Rel F M) {ps:List Nm} (hp:Good ps) (h0:ps ≠ []):(getA (joinL ps) F.nodes).map Ent.kind = (findM M ps).map (·.kind):=by
 rw [← getA_map]
 show getA (joinL ps) (kd F.nodes) = _
 rw [h.eq,getA_find]
 congr 1
 obtain ⟨r,rest,rfl,hr,-⟩:=h.wf.root
 have hg:=h.good
 unfold findM
 rw [List.find?_cons_of_neg (by simp [hr,Ne.symm h0])]
 show rest.find? _ = _
 have:∀ x ∈ rest,decide (joinL x.ps = joinL ps) = decide (x.ps = ps):=fun x hx=>by
  by_cases e:x.ps = ps
  ·rw [e];simp
  ·rw [decide_eq_false e,decide_eq_false (fun e2=>e (join_inj (hg x (List.mem_cons_of_mem _ hx)) hp e2))]
 clear hg h
 induction rest with
 | nil=>rfl
 | cons a l ih =>
  rw [List.find?_cons,List.find?_cons,this a List.mem_cons_self,ih fun x hx=>this x (List.mem_cons_of_mem _ hx)]
theorem Rel.is {F:Fld} {M:DM} (h:Rel F M) {ps:List Nm} (hp:Good ps) (h0:ps ≠ []):(getA (joinL ps) F.nodes).isSome = (findM M ps).isSome:=by
 have:=congrArg Option.isSome (h.get hp h0)
 simpa using this
theorem Rel.len {F:Fld} {M:DM} (h:Rel F M):F.nodes.length + 1 = M.length:=by
 have:=congrArg List.length h.eq
 obtain ⟨r,rest,rfl,-,-⟩:=h.wf.root
 simp [kd] at this
 simp [this]
theorem WF.step {M:DM} (h:WF M) {x:BN} (hx:x ∈ M) (n:Nm):∀ (k:Nat) (u:List Nm) (z:BN),u.length = k → z ∈ M → z.ps = x.ps ++ n :: u → n ∈ x.names:=by
 intro k
 induction k with
 | zero =>
  intro u z hu hz hzp
  obtain rfl:=List.length_eq_zero_iff.1 hu
  obtain ⟨v,hv,hvp,hvn⟩:=h.up z hz x.ps n hzp
  rwa [h.one hv hx hvp] at hvn
 | succ k ih =>
  intro u z hu hz hzp
  have hun:u ≠ []:=fun e=>by rw [e] at hu;simp at hu
  obtain ⟨v,hv,hvp,hvn⟩:=h.up z hz (x.ps ++ n :: u.dropLast) (u.getLast hun) (by rw [hzp];simp [List.dropLast_concat_getLast])
  exact ih u.dropLast v (by simp [hu]) hv hvp
theorem WF.below {M:DM} (h:WF M) {x z:BN} (hx:x ∈ M) (hz:z ∈ M) (hp:x.ps <+: z.ps) (hne:x.ps ≠ z.ps):x.names ≠ []:=by
 obtain ⟨t,ht⟩:=hp
 have htn:t ≠ []:=fun e=>hne (by rw [← ht,e,List.append_nil])
 obtain ⟨n,t',rfl⟩:=List.exists_cons_of_ne_nil htn
 have:=h.step hx n _ t' z rfl hz ht.symm
 intro e;rw [e] at this;cases this
theorem cut_id {M:DM} (h:WF M) {x:BN} (hx:x ∈ M) {n:Nm} (hn:n ∉ x.names):cutM M (x.ps ++ [n]) = M:=by
 unfold cutM
 refine List.filter_eq_self.2 fun y hy => ?_
 rw [Bool.not_eq_true',← Bool.not_eq_true,atB_iff]
 rintro ⟨t,ht⟩
 exact hn (h.step hx n _ t y rfl hy (by rw [← ht];simp))
theorem tail_edit {M:DM} (h:WF M) (qs:List Nm) (n:Nm) (f:BN → BN):(modM (cutM M (qs ++ [n])) qs f).tail = modM (cutM M.tail (qs ++ [n])) qs f:=by
 obtain ⟨r,rest,rfl,hr,-⟩:=h.root
 have:cutM (r :: rest) (qs ++ [n]) = r :: cutM rest (qs ++ [n]):=by
  unfold cutM
  rw [List.filter_cons_of_pos]
  rw [Bool.not_eq_true',← Bool.not_eq_true,atB_iff,hr]
  intro hp
  have:=hp.length_le
  simp at this
 rw [this];rfl
theorem mod_kinds (M:DM) (ps:List Nm) (f:BN → BN) (hf:∀ x,(f x).ps = x.ps ∧ (f x).b = x.b ∧ (f x).kind = x.kind):(modM M ps f).map (fun x=>(joinL x.ps,x.kind)) = M.map fun x=>(joinL x.ps,x.kind):=by
 unfold modM
 rw [List.map_map]
 refine List.map_congr_left fun x _ => ?_
 show (joinL (if x.ps = ps then f x else x).ps,(if x.ps = ps then f x else x).kind) = _
 split
 ·rw [(hf x).1,(hf x).2.2]
 ·rfl
theorem Rel.gone {F:Fld} {M:DM} (h:Rel F M) {x0:BN} (hx:x0 ∈ M) {n:Nm} (hn:n ∈ x0.names) (hg:Good (x0.ps ++ [n])) (f:BN → BN) (hf:∀ x,(f x).ps = x.ps ∧ (f x).b = x.b ∧ (f x).kind = x.kind)
  (hfn:(f x0).names = x0.names.eraseIdx (kidIx x0.names n)) (hfk:(f x0).kids = x0.kids.eraseIdx (kidIx x0.names n)) (hfew:M.length ≤ 1000000000) :
  Rel (goneF F (joinL (x0.ps ++ [n]))) (modM (cutM M (x0.ps ++ [n])) x0.ps f):=by
 have hw:=h.wf
 have hix:=((hw.srt x0 hx).mem n).1 hn
 have hil:=(List.getElem?_eq_some_iff.1 hix).1
 have hlen:=hw.len x0 hx
 obtain ⟨y,hyM,hyp,-⟩:=hw.down x0 hx _ n _ hix (List.getElem?_eq_getElem (by omega))
 have hne0:x0.ps ++ [n] ≠ []:=by simp
 have hnd:=(hw.srt x0 hx).nodup
 have herase:∀ m ∈ x0.names,m ≠ n → m ∈ x0.names.eraseIdx (kidIx x0.names n):=fun m hm hmn=>by
  obtain ⟨j,hj⟩:=List.getElem?_of_mem hm
  refine List.mem_eraseIdx_iff_getElem?.2 ⟨j,fun e=>hmn ?_,hj⟩
  rw [e,hix] at hj
  exact (Option.some.inj hj).symm
 have hwf:WF (modM (cutM M (x0.ps ++ [n])) x0.ps f ++ []):=hw.edit hx n f [] hf (by rw [hfn];exact (hw.srt x0 hx).del _) (by rw [hfn,hfk,List.length_eraseIdx_of_lt hil,List.length_eraseIdx_of_lt (by omega)];omega)
  (fun i m c h1 h2=>.inl (by
   rw [hfn] at h1
   rw [hfk] at h2
   rw [List.getElem?_eraseIdx] at h1 h2
   by_cases hi:i < kidIx x0.names n
   ·rw [if_pos hi] at h1 h2
    refine ⟨fun e => ?_,i,h1,h2⟩
    rw [e] at h1
    have:=(hw.srt x0 hx).at h1
    omega
   ·rw [if_neg hi] at h1 h2
    refine ⟨fun e => ?_,i + 1,h1,h2⟩
    rw [e] at h1
    have:=(hw.srt x0 hx).at h1
    omega)) (by rw [hfn];exact herase) (fun z hz=>by cases hz) (by simp)
 rw [List.append_nil] at hwf
 -- what is left of the nodes
 have hnodes:(goneF F (joinL (x0.ps ++ [n]))).nodes = F.nodes.filter fun x => !(subB (joinL (x0.ps ++ [n])) x.1 || x.1 == joinL (x0.ps ++ [n])):=by
  show delA _ (cutF F _).nodes = _
  unfold cutF delA
  by_cases hk:0 < kidOf F (joinL (x0.ps ++ [n]))
  ·rw [if_pos hk,List.filter_filter]
   refine List.filter_congr fun x _ => ?_
   cases subB (joinL (x0.ps ++ [n])) x.1 <;> by_cases e:x.1 = joinL (x0.ps ++ [n]) <;> simp [e]
  ·rw [if_neg hk]
   refine List.filter_congr fun x hxF => ?_
   have hsub:subB (joinL (x0.ps ++ [n])) x.1 = false:=by
    cases hs:subB (joinL (x0.ps ++ [n])) x.1 with
    | false=>rfl
    | true =>
     exfalso
     have hm:(x.1,x.2.kind) ∈ M.tail.map fun x=>(joinL x.ps,x.kind):=by
      rw [← h.eq];exact List.mem_map.2 ⟨x,hxF,rfl⟩
     obtain ⟨z,hz,he⟩:=List.mem_map.1 hm
     have hzM:=List.mem_of_mem_tail hz
     rw [← (Prod.mk.inj he).1,sub_join _ _ hg (h.good z hzM) hne0] at hs
     have hb:=hw.below hyM hzM (by rw [hyp];exact hs.1) (by rw [hyp];exact hs.2)
     have:=h.kid y hyM
     rw [hyp] at this
     have hl:0 < y.names.length:=List.length_pos_iff.2 hb
     omega
   rw [hsub]
   by_cases e:x.1 = joinL (x0.ps ++ [n]) <;> simp [e]
 have habove:aboveP (joinL (x0.ps ++ [n])) = joinL x0.ps:=above_join _ _ hg
 have hpp:joinL x0.ps ≠ joinL (x0.ps ++ [n]):=fun e=>by
  have:=join_inj hg.left hg e
  exact not_pre x0.ps n (by rw [← this];exact List.prefix_refl _)
 -- a kid's count that is kept
 have hkeep:∀ k,subB (joinL (x0.ps ++ [n])) k = false → k ≠ joinL (x0.ps ++ [n]) → (getA k (delA (joinL (x0.ps ++ [n])) (cutF F (joinL (x0.ps ++ [n]))).kids)).getD 0 = kidOf F k:=fun k hs hk=>by
  unfold delA
  rw [getA_filter (fun q=>decide (q ≠ joinL (x0.ps ++ [n]))),if_pos (by simpa using hk)]
  unfold cutF
  split
  ·show (getA k (F.kids.filter fun x => !(subB (joinL (x0.ps ++ [n])) x.1 && (getA x.1 F.nodes).isSome))).getD 0 = _
   rw [getA_filter (fun q => !(subB (joinL (x0.ps ++ [n])) q && (getA q F.nodes).isSome)),if_pos (by rw [hs];rfl)]
   rfl
  ·rfl
 have hsub0:subB (joinL (x0.ps ++ [n])) (joinL x0.ps) = false:=by
  rw [← Bool.not_eq_true,sub_join _ _ hg hg.left hne0]
  exact fun hh=>not_pre _ _ hh.1
 have hkids:∀ k,kidOf (goneF F (joinL (x0.ps ++ [n]))) k = if k = joinL x0.ps then (x0.names.length:Int) - 1 else (getA k (delA (joinL (x0.ps ++ [n])) (cutF F (joinL (x0.ps ++ [n]))).kids)).getD 0:=fun k=>by
  show (getA k (updA (aboveP (joinL (x0.ps ++ [n]))) (IntKind.i64.wrap ((getA (aboveP (joinL (x0.ps ++ [n]))) (delA (joinL (x0.ps ++ [n])) (cutF F (joinL (x0.ps ++ [n]))).kids)).getD 0 - 1)) (delA (joinL (x0.ps ++ [n])) (cutF F (joinL (x0.ps ++ [n]))).kids))).getD 0 = _
  rw [habove,getA_upd,hkeep _ hsub0 hpp,h.kid x0 hx]
  split
  ·show IntKind.i64.wrap _ = _
   have:x0.names.length ≤ M.length:=by
    have hc:=hw.count hx
    have h1:x0.names.length ≤ (x0.names.map fun n=>1 + cnt M (x0.ps ++ [n])).sum:=by
     clear hc hfn hix hil hn hnd herase hkeep hsub0 hlen hfk
     induction x0.names with
     | nil=>simp
     | cons a l ih=>rw [List.map_cons,List.sum_cons,List.length_cons];omega
    have h2:cnt M x0.ps ≤ M.length:=List.countP_le_length
    omega
   exact IntWalk.i64_in _ (by omega)
  ·rfl
 refine ⟨hwf,?_,?_,?_,?_⟩
 ·intro x hxm
  obtain ⟨x',hx',rfl⟩:=mem_mod.1 hxm
  split
  ·rw [(hf x').1];exact h.good x' (mem_cut.1 hx').1
  ·exact h.good x' (mem_cut.1 hx').1
 ·rw [hnodes,tail_edit hw,mod_kinds _ _ _ hf]
  show (F.nodes.filter _).map _ = _
  rw [← filt_map Ent.kind (fun q => !(subB (joinL (x0.ps ++ [n])) q || q == joinL (x0.ps ++ [n])))]
  show (kd F.nodes).filter _ = _
  rw [h.eq]
  unfold cutM
  rw [List.filter_map]
  congr 1
  refine List.filter_congr fun x hxt => ?_
  have hxM:=List.mem_of_mem_tail hxt
  show (!(subB (joinL (x0.ps ++ [n])) (joinL x.ps) || joinL x.ps == joinL (x0.ps ++ [n]))) = !atB (x0.ps ++ [n]) x.ps
  congr 1
  rw [Bool.eq_iff_iff,Bool.or_eq_true,sub_join _ _ hg (h.good x hxM) hne0,atB_iff,beq_iff_eq]
  constructor
  ·rintro (hh | hh)
   ·exact hh.1
   ·rw [join_inj (h.good x hxM) hg hh];exact List.prefix_refl _
  ·intro hh
   by_cases e:x0.ps ++ [n] = x.ps
   ·right;rw [e]
   ·exact .inl ⟨hh,e⟩
 ·intro x hxm
  obtain ⟨x',hx',rfl⟩:=mem_mod.1 hxm
  obtain ⟨hxM,hxp⟩:=mem_cut.1 hx'
  by_cases e:x'.ps = x0.ps
  ·obtain rfl:=hw.one hxM hx e
   rw [if_pos rfl,(hf x').1,hkids,if_pos rfl,hfn,List.length_eraseIdx_of_lt hil]
   omega
  ·rw [if_neg e,hkids,if_neg (fun e2=>e (join_inj (h.good x' hxM) hg.left e2)),hkeep _ ?_ ?_,h.kid x' hxM]
   ·rw [← Bool.not_eq_true,sub_join _ _ hg (h.good x' hxM) hne0]
    exact fun hh=>hxp hh.1
   ·exact fun e2=>hxp (by rw [join_inj (h.good x' hxM) hg e2];exact List.prefix_refl _)
 ·intro k hk
  have hk0:k ≠ joinL x0.ps:=fun e=>hk (f x0) (mem_mod.2 ⟨x0,mem_cut.2 ⟨hx,not_pre _ _⟩,if_pos rfl⟩) (by rw [(hf x0).1,e])
  rw [hkids,if_neg hk0]
  by_cases hkp:k = joinL (x0.ps ++ [n])
  ·unfold delA
   rw [getA_filter (fun q=>decide (q ≠ joinL (x0.ps ++ [n]))),if_neg (by simpa using hkp)]
   rfl
  ·by_cases hin:∃ x ∈ M,joinL x.ps = k
   ·obtain ⟨x,hxM,hxk⟩:=hin
    have hpre:(x0.ps ++ [n]) <+: x.ps:=by
     refine Classical.byContradiction fun hno => ?_
     refine hk _ (mem_mod.2 ⟨x,mem_cut.2 ⟨hxM,hno⟩,rfl⟩) ?_
     split
     ·rw [(hf x).1,hxk]
     ·exact hxk
    have hne:x0.ps ++ [n] ≠ x.ps:=fun e=>hkp (by rw [← hxk,e])
    have hs:subB (joinL (x0.ps ++ [n])) k = true:=by
     rw [← hxk,sub_join _ _ hg (h.good x hxM) hne0]
     exact ⟨hpre,hne⟩
    have hpos:0 < kidOf F (joinL (x0.ps ++ [n])):=by
     have hb:=hw.below hyM hxM (by rw [hyp];exact hpre) (by rw [hyp];exact hne)
     have h1:=h.kid y hyM
     rw [hyp] at h1
     have hl:0 < y.names.length:=List.length_pos_iff.2 hb
     omega
    have hxn:x.ps ≠ []:=fun e=>by rw [e] at hpre;have:=hpre.length_le;simp at this
    have his:(getA k F.nodes).isSome = true:=by
     rw [← hxk,h.is (h.good x hxM) hxn,hw.find hxM];rfl
    unfold delA cutF
    rw [getA_filter (fun q=>decide (q ≠ joinL (x0.ps ++ [n]))),if_pos (by simpa using hkp),if_pos hpos]
    show (getA k (F.kids.filter fun x => !(subB (joinL (x0.ps ++ [n])) x.1 && (getA x.1 F.nodes).isSome))).getD 0 = 0
    rw [getA_filter (fun q => !(subB (joinL (x0.ps ++ [n])) q && (getA q F.nodes).isSome)),if_neg (by rw [hs,his];decide)]
    rfl
   ·have hno:=h.no k (fun x hxM e=>hin ⟨x,hxM,e⟩)
    unfold delA
    rw [getA_filter (fun q=>decide (q ≠ joinL (x0.ps ++ [n]))),if_pos (by simpa using hkp)]
    unfold cutF
    split
    ·show (getA k (F.kids.filter fun x => !(subB (joinL (x0.ps ++ [n])) x.1 && (getA x.1 F.nodes).isSome))).getD 0 = 0
     rw [getA_filter (fun q => !(subB (joinL (x0.ps ++ [n])) q && (getA q F.nodes).isSome))]
     split
     ·exact hno
     ·rfl
    ·exact hno
theorem Rel.put {F:Fld} {M:DM} (h:Rel F M) {x0:BN} (hx:x0 ∈ M) {n:Nm} (hn:n ∉ x0.names) (hg:Good (x0.ps ++ [n])) (f:BN → BN) (hf:∀ x,(f x).ps = x.ps ∧ (f x).b = x.b ∧ (f x).kind = x.kind)
  (z:BN) (hz:z.ps = x0.ps ++ [n] ∧ z.names = [] ∧ z.kids = []) (hfn:(f x0).names = insN x0.names n) (hfk:(f x0).kids = x0.kids.take (kidIx x0.names n) ++ z.b :: x0.kids.drop (kidIx x0.names n))
  (e:Ent) (hep:e.path = joinL (x0.ps ++ [n])) (hek:e.kind = z.kind) (hfew:M.length ≤ 1000000000):Rel (putF F e) (modM M x0.ps f ++ [z]):=by
 have hw:=h.wf
 have hlen:=hw.len x0 hx
 have hil:=kidIx_le x0.names n
 have hne0:x0.ps ++ [n] ≠ []:=by simp
 have habove:aboveP e.path = joinL x0.ps:=by rw [hep];exact above_join _ _ hg
 have hpp:joinL x0.ps ≠ joinL (x0.ps ++ [n]):=fun e=>by
  have:=join_inj hg.left hg e
  exact not_pre x0.ps n (by rw [← this];exact List.prefix_refl _)
 have hnone:findM M (x0.ps ++ [n]) = none:=by
  rcases hw.kid hx n with ⟨h1,-⟩ | ⟨-,h2⟩
  ·exact absurd h1 hn
  ·exact h2
 have hwf:WF (modM (cutM M (x0.ps ++ [n])) x0.ps f ++ [z]):=hw.edit hx n f [z] hf (by rw [hfn];exact (hw.srt x0 hx).ins n hn)
  (by rw [hfn,hfk];unfold insN;simp only [List.length_append,List.length_take,List.length_cons,List.length_drop];omega)
  (fun i m c h1 h2=>by
   rw [hfn] at h1
   rw [hfk] at h2
   unfold insN at h1
   rcases Nat.lt_trichotomy i (kidIx x0.names n) with hi | hi | hi
   ·rw [List.getElem?_append_left (by rw [List.length_take];omega),List.getElem?_take_of_lt hi] at h1 h2
    exact .inl ⟨fun e=>hn (e ▸ List.mem_of_getElem? h1),i,h1,h2⟩
   ·rw [List.getElem?_append_right (by rw [List.length_take];omega),List.length_take,show i - min (kidIx x0.names n) x0.names.length = 0 by omega] at h1
    rw [List.getElem?_append_right (by rw [List.length_take];omega),List.length_take,show i - min (kidIx x0.names n) x0.kids.length = 0 by omega] at h2
    simp only [List.getElem?_cons_zero,Option.some.injEq] at h1 h2
    exact .inr ⟨z,by simp,h1.symm,h2⟩
   ·obtain ⟨j,rfl⟩:∃ j,i = kidIx x0.names n + 1 + j:=⟨i - kidIx x0.names n - 1,by omega⟩
    rw [List.getElem?_append_right (by rw [List.length_take];omega),List.length_take,show kidIx x0.names n + 1 + j - min (kidIx x0.names n) x0.names.length = j + 1 by omega,List.getElem?_cons_succ,List.getElem?_drop] at h1
    rw [List.getElem?_append_right (by rw [List.length_take];omega),List.length_take,show kidIx x0.names n + 1 + j - min (kidIx x0.names n) x0.kids.length = j + 1 by omega,List.getElem?_cons_succ,List.getElem?_drop] at h2
    exact .inl ⟨fun e=>hn (e ▸ List.mem_of_getElem? h1),_,h1,h2⟩)
  (fun m hm _=>by rw [hfn];exact (mem_insN _ _ _).2 (.inr hm))
  (fun z' hz'=>by
   rw [List.mem_singleton.1 hz']
   exact ⟨hz.1,hz.2.1,hz.2.2,by rw [hfn];exact (mem_insN _ _ _).2 (.inl rfl)⟩) (by simp)
 rw [cut_id hw hx hn] at hwf
 have hkids:∀ k,kidOf (putF F e) k = if k = joinL x0.ps then (x0.names.length:Int) + 1 else kidOf F k:=fun k=>by
  show (getA k (updA (aboveP e.path) (IntKind.i64.wrap (kidOf F (aboveP e.path) + 1)) F.kids)).getD 0 = _
  rw [habove,getA_upd,h.kid x0 hx]
  split
  ·show IntKind.i64.wrap _ = _
   have:x0.names.length ≤ M.length:=by
    have hc:=hw.count hx
    have h1:x0.names.length ≤ (x0.names.map fun n=>1 + cnt M (x0.ps ++ [n])).sum:=by
     clear hc hfn hil hn hlen hfk hnone hwf
     induction x0.names with
     | nil=>simp
     | cons a l ih=>rw [List.map_cons,List.sum_cons,List.length_cons];omega
    have h2:cnt M x0.ps ≤ M.length:=List.countP_le_length
    omega
   exact IntWalk.i64_in _ (by omega)
  ·rfl
 have hgn:getA e.path F.nodes = none:=by
  have:=h.is hg hne0
  rw [hnone,← hep] at this
  cases hh:getA e.path F.nodes with
  | none=>rfl
  | some v=>rw [hh] at this;cases this
 refine ⟨hwf,?_,?_,?_,?_⟩
 ·intro x hxm
  rcases List.mem_append.1 hxm with hxm | hxm
  ·obtain ⟨x',hx',rfl⟩:=mem_mod.1 hxm
   split
   ·rw [(hf x').1];exact h.good x' hx'
   ·exact h.good x' hx'
  ·rw [List.mem_singleton.1 hxm,hz.1];exact hg
 ·show kd (updA e.path e F.nodes) = _
  rw [updA_new _ _ _ hgn]
  have ht:(modM M x0.ps f ++ [z]).tail = modM M.tail x0.ps f ++ [z]:=by
   obtain ⟨r,rest,rfl,-,-⟩:=hw.root
   rfl
  rw [ht,List.map_append,mod_kinds _ _ _ hf,← h.eq]
  unfold kd
  rw [List.map_append,List.map_cons,List.map_nil,List.map_cons,List.map_nil,hep,hek,hz.1]
 ·intro x hxm
  rw [hkids]
  rcases List.mem_append.1 hxm with hxm | hxm
  ·obtain ⟨x',hx',rfl⟩:=mem_mod.1 hxm
   by_cases e2:x'.ps = x0.ps
   ·obtain rfl:=hw.one hx' hx e2
    rw [if_pos rfl,(hf x').1,if_pos rfl,hfn]
    unfold insN
    simp only [List.length_append,List.length_take,List.length_cons,List.length_drop]
    omega
   ·rw [if_neg e2,if_neg (fun e3=>e2 (join_inj (h.good x' hx') hg.left e3)),h.kid x' hx']
  ·rw [List.mem_singleton.1 hxm,hz.1,if_neg (Ne.symm hpp),hz.2.1]
   exact h.no _ fun y hy e3=>by
    have:=findM_none hnone y hy
    exact this (join_inj (h.good y hy) hg e3)
 ·intro k hk
  have hk0:k ≠ joinL x0.ps:=fun e2=>hk (f x0) (List.mem_append_left _ (mem_mod.2 ⟨x0,hx,if_pos rfl⟩)) (by rw [(hf x0).1,e2])
  rw [hkids,if_neg hk0]
  refine h.no k fun y hy e2 => ?_
  refine hk _ (List.mem_append_left _ (mem_mod.2 ⟨y,hy,rfl⟩)) ?_
  split
  ·rw [(hf y).1,e2]
  ·exact e2
/-! what applying an entry is,in the tree's words -/
theorem Rel.up_kind {F:Fld} {M:DM} (h:Rel F M) (qs:List Nm) (hg:Good qs):(joinL qs ≠ [] ∧ ((getA (joinL qs) F.nodes).getD e0).kind ≠ 1) ↔ ¬ ∃ u,findM M qs = some u ∧ u.kind = 1:=by
 by_cases hq:qs = []
 ·subst hq
  obtain ⟨r,rest,rfl,hr,hk⟩:=h.wf.root
  constructor
  ·intro hh;exact absurd joinL_nil hh.1
  ·intro hh
   exact absurd ⟨r,by unfold findM;rw [List.find?_cons_of_pos (by simp [hr])],hk⟩ hh
 ·have hj:=joinL_ne hg hq
  have hh:=h.get hg hq
  constructor
  ·rintro ⟨-,h1⟩ ⟨u,hu,hk⟩
   rw [hu] at hh
   cases hc:getA (joinL qs) F.nodes with
   | none=>rw [hc] at hh;cases hh
   | some v =>
    rw [hc] at hh h1
    exact h1 ((Option.some.inj hh).trans hk)
  ·intro h1
   refine ⟨hj,fun h2=>h1 ?_⟩
   cases hc:getA (joinL qs) F.nodes with
   | none=>rw [hc] at h2;exact absurd h2 (by decide)
   | some v =>
    rw [hc] at hh h2
    cases hf:findM M qs with
    | none=>rw [hf] at hh;cases hh
    | some u =>
     rw [hf] at hh
     exact ⟨u,rfl,(Option.some.inj hh).symm.trans h2⟩
theorem Rel.apply_up {F:Fld} {M:DM} (h:Rel F M) (qs:List Nm) (n:Nm) (hg:Good (qs ++ [n])) (e:Ent) (hep:e.path = joinL (qs ++ [n])) (hu:¬ ∃ u,findM M qs = some u ∧ u.kind = 1):applyF F e = none:=by
 unfold applyF
 rw [hep,above_join _ _ hg,if_pos ((h.up_kind qs hg.left).2 hu)]
theorem Rel.apply_none {F:Fld} {M:DM} (h:Rel F M) (qs:List Nm) (n:Nm) (hg:Good (qs ++ [n])) (e:Ent) (hep:e.path = joinL (qs ++ [n])) (hk:e.kind = 4) (hy:findM M (qs ++ [n]) = none):applyF F e = none:=by
 have his:=h.is hg (by simp)
 rw [hy] at his
 unfold applyF
 rw [hep]
 split
 ·rfl
 ·rw [if_pos ⟨hk,his⟩]
section
variable {F:Fld} {M:DM} (h:Rel F M) {qs:List Nm} {n:Nm} (hg:Good (qs ++ [n])) {e:Ent} (hep:e.path = joinL (qs ++ [n])) {u:BN} (hu:findM M qs = some u) (huk:u.kind = 1)
include h hg hep hu huk
theorem Rel.apply_gone {y:BN} (hy:findM M (qs ++ [n]) = some y) (hk:e.kind = 4):applyF F e = some (goneF F e.path):=by
 have his:=h.is hg (by simp)
 rw [hy,← hep] at his
 have h1:¬ (aboveP e.path ≠ [] ∧ ((getA (aboveP e.path) F.nodes).getD e0).kind ≠ 1):=by
  rw [hep,above_join _ _ hg,h.up_kind qs hg.left]
  exact fun hh=>hh ⟨u,hu,huk⟩
 unfold applyF
 rw [if_neg h1,if_neg (fun hh=>by rw [hh.2] at his;cases his),if_neg (fun hh=>by rw [hk] at hh;exact absurd hh.1 (by decide)),if_pos hk,if_pos (by rw [his];rfl)]
omit hu huk in
theorem Rel.kind_at {y:BN} (hy:findM M (qs ++ [n]) = some y):((getA e.path F.nodes).getD e0).kind = y.kind:=by
 have hh:=h.get hg (by simp)
 rw [hy,← hep] at hh
 cases hc:getA e.path F.nodes with
 | none=>rw [hc] at hh;cases hh
 | some v=>rw [hc] at hh;exact Option.some.inj hh
theorem Rel.apply_mode {y:BN} (hy:findM M (qs ++ [n]) = some y) (hk:e.kind = 1) (hyk:y.kind = 1):∃ F',applyF F e = some F' ∧ kd F'.nodes = kd F.nodes ∧ F'.kids = F.kids:=by
 have h1:¬ (aboveP e.path ≠ [] ∧ ((getA (aboveP e.path) F.nodes).getD e0).kind ≠ 1):=by
  rw [hep,above_join _ _ hg,h.up_kind qs hg.left]
  exact fun hh=>hh ⟨u,hu,huk⟩
 have h3:=h.kind_at hg hep hy
 have hh:=h.get hg (by simp)
 rw [hy,← hep] at hh
 unfold applyF
 rw [if_neg h1,if_neg (fun hh=>by rw [hk] at hh;exact absurd hh.1 (by decide)),if_pos ⟨hk,h3.trans hyk⟩]
 refine ⟨_,rfl,?_,rfl⟩
 show kd (updA e.path { ((getA e.path F.nodes).getD e0) with mode:=e.mode } F.nodes) = kd F.nodes
 unfold kd
 rw [← updA_map Ent.kind]
 show updA e.path ((getA e.path F.nodes).getD e0).kind (kd F.nodes) = kd F.nodes
 have hgk:getA e.path (kd F.nodes) = some ((getA e.path F.nodes).getD e0).kind:=by
  unfold kd
  rw [getA_map]
  cases hc:getA e.path F.nodes with
  | none=>rw [hc] at hh;cases hh
  | some v=>rfl
 have:∀ (l:List (Nm × Int)) (k:Nm) (v:Int),getA k l = some v → updA k v l = l:=by
  intro l
  induction l with
  | nil=>intro k v hh;cases hh
  | cons a l ih =>
   intro k v hh
   rw [getA] at hh
   rw [updA]
   by_cases e1:k = a.1
   ·rw [if_pos e1] at hh ⊢
    rw [← Option.some.inj hh,e1]
   ·rw [if_neg e1] at hh ⊢
    rw [ih k v hh]
 exact this _ _ _ hgk
theorem Rel.apply_new (hy:findM M (qs ++ [n]) = none) (hk:e.kind ≠ 4):applyF F e = some (putF F (if e.kind = 5 then { e with kind:=1 } else e)):=by
 have his:=h.is hg (by simp)
 rw [hy,← hep] at his
 have h1:¬ (aboveP e.path ≠ [] ∧ ((getA (aboveP e.path) F.nodes).getD e0).kind ≠ 1):=by
  rw [hep,above_join _ _ hg,h.up_kind qs hg.left]
  exact fun hh=>hh ⟨u,hu,huk⟩
 have hno:getA e.path F.nodes = none:=by
  cases hc:getA e.path F.nodes with
  | none=>rfl
  | some v=>rw [hc] at his;cases his
 unfold applyF
 rw [if_neg h1,if_neg (fun hh=>hk hh.1),if_neg (fun hh=>by rw [hno] at hh;exact absurd hh.2 (by decide)),if_neg hk,if_neg (by rw [his];decide)]
theorem Rel.apply_old {y:BN} (hy:findM M (qs ++ [n]) = some y) (hk:e.kind ≠ 4) (hb:¬ (e.kind = 1 ∧ y.kind = 1)):applyF F e = some (putF (goneF F e.path) (if e.kind = 5 then { e with kind:=1 } else e)):=by
 have his:=h.is hg (by simp)
 rw [hy,← hep] at his
 have h1:¬ (aboveP e.path ≠ [] ∧ ((getA (aboveP e.path) F.nodes).getD e0).kind ≠ 1):=by
  rw [hep,above_join _ _ hg,h.up_kind qs hg.left]
  exact fun hh=>hh ⟨u,hu,huk⟩
 have h3:=h.kind_at hg hep hy
 unfold applyF
 rw [if_neg h1,if_neg (fun hh=>hk hh.1),if_neg (fun hh=>hb ⟨hh.1,h3.symm.trans hh.2⟩),if_neg hk,if_pos (by rw [his];rfl)]
end
end Go.Proofs.YtifhnpkapgaboaaGreat.doc
