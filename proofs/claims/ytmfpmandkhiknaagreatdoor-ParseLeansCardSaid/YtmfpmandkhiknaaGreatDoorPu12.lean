/-
  Proved: how a node's row is made and grows; what the parser's methods owe each other. Conditions: as each theorem says.
  Proved: what expr, inner, unary of the document's parser return. Conditions: as each theorem says.
  Proved: what binary of the document's parser returns. Conditions: as each theorem says.
-/
import Derived.Test.YtmfpmandkhiknaaGreatDoorPu11
import Derived.Maps.AppendAt
import Derived.Deep.LoopGhost
set_option linter.unusedVariables false
set_option linter.unusedSimpArgs false
namespace Go.Proofs.YtmfpmandkhiknaaGreatDoor.par
open Go.RowKit
open heap
open lex (Tk TRow TkAt run_store_float add0)
set_option maxRecDepth 100000
attribute [local go_sem] run_store_float
theorem infoN:(Tryz.prog.info? 61).map (fun i=>(i.zero,i.size,i.bytes)) = some (some (.agg #[.int .i64 0,.string ⟨#[]⟩,.float .f64 0,.slice none 0 0,.int .i64 0]),5,64):=by kernel_rfl
theorem depth_all {W:World}:∀ (ks:List Tr),(∀ k ∈ ks,k.ok W) → ∃ d,∀ k ∈ ks,KV 61 W d k.ks k.v k.S
 | [],_=>⟨0,by simp⟩
 | k :: r,h=>by
  obtain ⟨d,hd⟩:=depth_all r (fun q hq=>h q (List.mem_cons_of_mem _ hq))
  obtain ⟨e,he⟩:=h k (List.mem_cons_self ..)
  refine ⟨max d (e + 1),fun q hq => ?_⟩
  rcases List.mem_cons.1 hq with rfl | hq
  ·exact he.upto (Nat.le_max_right _ _)
  ·exact (hd q hq).upto (Nat.le_max_left _ _)
theorem rowC_len:∀ (xs:List Nd) (cs:List Value),cs.length = xs.length → (rowC xs cs).length = xs.length * 5
 | [],[],_=>rfl
 | x :: xs,c :: cs,h=>by
  have:=rowC_len xs cs (by simpa using h)
  simp only [rowC,List.length_append,this,List.length_cons]
  show 5 + _ = _
  omega
 | [],_ :: _,h=>by simp at h
 | _ :: _,[],h=>by simp at h
theorem Tr.build {W:World} (xs:List Nd) (ks:List Tr) (hx:xs.map Nd.kids = ks.map Tr.ks) (hk:∀ k ∈ ks,k.ok W) (hl:xs.length ≤ 100000) :
  (Tr.mk xs (.slice (some ⟨W.heap.size,0,none⟩) xs.length xs.length) (W.heap.size :: (ks.map Tr.S).flatten)).ok (W.alloc (.cells (rowC xs (ks.map Tr.v)).toArray 61 (0,0))):=by
 have hlen:xs.length = ks.length:=by simpa using congrArg List.length hx
 obtain ⟨d,hd⟩:=depth_all ks hk
 refine ⟨d,ks.map Tr.v,ks.map Tr.S,by simp [hlen],by simp [hlen],⟨rowC_len _ _ (by simp [hlen]),.inr ⟨W.heap.size,xs.length,_,rfl,Nat.zero_le _,blk_new _ _,Nat.le_refl _,by unfold maxLen;omega,?_,?_⟩⟩,by simp [Value.ownBlock],fun g hg hm => ?_,fun i x c s hx' hc hs => ?_⟩
 ·simp [rowC_len _ _ (show (ks.map Tr.v).length = xs.length by simp [hlen])]
 ·simp only []
  rw [List.take_of_length_le]
  rw [rowC_len _ _ (by simp [hlen])]
  exact Nat.le_refl _
 ·have:g = W.heap.size:=by simpa [Value.ownBlock] using hg
  subst this
  obtain ⟨S,hS,hg⟩:=List.mem_flatten.1 hm
  obtain ⟨k,hk',rfl⟩:=List.mem_map.1 hS
  have:=(hk k hk').lt _ hg
  omega
 ·have hx':xs[i]? = some x:=hx'
  have hi:i < ks.length:=by have:=(List.getElem?_eq_some_iff.1 hx').1;omega
  have e1:ks[i]? = some ks[i]:=List.getElem?_eq_getElem hi
  rw [List.getElem?_map,e1] at hc hs
  simp at hc hs
  have e2:(xs.map Nd.kids)[i]? = some x.kids:=by rw [List.getElem?_map,hx'];rfl
  rw [hx,List.getElem?_map,e1] at e2
  simp at e2
  rw [← e2,← hc,← hs]
  exact (hd _ (List.getElem_mem hi)).turned (R := []) ((Turned.refl _ _).alloc _) (by simp)
theorem SW.build {w W:World} {p:Nat} {v:Value} {E:PE} {s:PS} {L:List (Nat × Obj)} {K':List Tr} (ks:List Tr) (h:SW w W p v E s L (ks ++ K')) (xs:List Nd) (hx:xs.map Nd.kids = ks.map Tr.ks) (hl:xs.length ≤ 100000) :
  SW w (W.alloc (.cells (rowC xs (ks.map Tr.v)).toArray 61 (0,0))) p v E s L (⟨xs,.slice (some ⟨W.heap.size,0,none⟩) xs.length xs.length,W.heap.size :: (ks.map Tr.S).flatten⟩ :: K'):=by
 have h':=h.alloc (.cells (rowC xs (ks.map Tr.v)).toArray 61 (0,0))
 have hb:=Tr.build xs ks hx (fun k hk=>(h.trees k (List.mem_append_left _ hk)).1) hl
 refine ⟨h'.P,h'.T,h.plt,h.own,fun l hl=>h'.loc l (List.mem_cons_of_mem _ hl),fun k hk => ?_,h.ndl,fun l hl k hk => ?_,.cons (fun k hk x hx' hx2 => ?_) (List.pairwise_append.1 h.ndk).2.1⟩
 ·rcases List.mem_cons.1 hk with rfl | hk
  ·refine ⟨hb,fun b hb => ?_⟩
   rcases List.mem_cons.1 hb with rfl | hb
   ·exact h.T.size
   ·obtain ⟨S,hS,hg⟩:=List.mem_flatten.1 hb
    obtain ⟨k,hk',rfl⟩:=List.mem_map.1 hS
    exact (h.trees k (List.mem_append_left _ hk')).2 b hg
  ·exact h'.trees k (List.mem_append_right _ hk)
 ·rcases List.mem_cons.1 hk with rfl | hk
  ·intro hm
   rcases List.mem_cons.1 hm with hm | hm
   ·have:=blk_lt (h.loc l hl).2;omega
   ·obtain ⟨S,hS,hg⟩:=List.mem_flatten.1 hm
    obtain ⟨k,hk',rfl⟩:=List.mem_map.1 hS
    exact h.dis l hl k (List.mem_append_left _ hk') hg
  ·exact h.dis l hl k (List.mem_append_right _ hk)
 ·rcases List.mem_cons.1 hx' with rfl | hx'
  ·have:=(h.trees k (List.mem_append_right _ hk)).1.lt _ hx2;omega
  ·obtain ⟨S,hS,hg⟩:=List.mem_flatten.1 hx'
   obtain ⟨q,hq,rfl⟩:=List.mem_map.1 hS
   exact (List.pairwise_append.1 h.ndk).2.2 q hq k hk x hg hx2
theorem SW.buildAt {w W:World} {p:Nat} {v:Value} {E:PE} {s:PS} {L:List (Nat × Obj)} {K':List Tr} (ks:List Tr) (h:SW w W p v E s L (ks ++ K')) (xs:List Nd) (hx:xs.map Nd.kids = ks.map Tr.ks) (hl:xs.length ≤ 100000) (b:Nat) (hb:b = W.heap.size) (R:Array Value) (hR:R = (rowC xs (ks.map Tr.v)).toArray) (n:Nat) (hn:n = xs.length) :
  SW w (W.alloc (.cells R 61 (0,0))) p v E s L (⟨xs,.slice (some ⟨b,0,none⟩) n n,W.heap.size :: (ks.map Tr.S).flatten⟩ :: K'):=by
 subst hb hR hn
 exact SW.build ks h xs hx hl
theorem ndC_one (x:Nd) (c:Value) (hc:∃ a n m,c = .slice a n m):∀ u ∈ ndC x c,u.oneCell' = true:=by
 obtain ⟨a,n,m,rfl⟩:=hc
 intro u hu
 simp only [ndC,List.mem_cons,List.not_mem_nil,or_false] at hu
 rcases hu with rfl | rfl | rfl | rfl | rfl <;> rfl
theorem SW.append {w W:World} {p:Nat} {v:Value} {E:PE} {s:PS} {L:List (Nat × Obj)} {K':List Tr} {kr kn:Tr} (h:SW w W p v E s L (kn :: kr :: K')) (x:Nd) (hx:x.kids = kn.ks) (g:Nat) (hg:W.heap[g]? = some (ndO x kn.v)) (hn:kr.ks.length ≤ 1000000) :
  ∃ v2 W2 S2,(Builtin.append_ #[59,59] 59 #[kr.v,.slice (some ⟨g,0,none⟩) 1 1]).run Tryz.prog W = .ok v2 W2 ∧ SW w W2 p v E s L (⟨kr.ks ++ [x],v2,S2⟩ :: K'):=by
 obtain ⟨i0,hi,hz0,hz1,hz2⟩:=info_parts infoN
 obtain ⟨⟨d,hd⟩,hrf⟩:=h.trees kr (by simp)
 obtain ⟨hnk,hnf⟩:=h.trees kn (by simp)
 have hns:=hnk.slice
 obtain ⟨e,he⟩:=hnk
 have hdis:∀ b ∈ kn.S,b ∉ kr.S:=fun b hb=>(List.pairwise_cons.1 h.ndk).1 kr (by simp) b hb
 have hK':=(List.pairwise_cons.1 (List.pairwise_cons.1 h.ndk).2).1
 have hKn:∀ k ∈ K',∀ b ∈ kn.S,b ∉ k.S:=fun k hk b hb=>(List.pairwise_cons.1 h.ndk).1 k (by simp [hk]) b hb
 have hd2:KV 61 W (max d (e + 1) + 1) kr.ks kr.v kr.S:=hd.upto (by omega)
 have he2:KV 61 W (max d (e + 1)) x.kids kn.v kn.S:=by rw [hx];exact he.upto (by omega)
 have hown:∃ l,W.ownsRow 0 61 5 kr.v kr.ks.length l:=by
  obtain ⟨cs,Ss,_,_,h3,_⟩:=hd
  exact ⟨_,h3⟩
 have hownS:∀ b ∈ kr.v.ownBlock.toList,b ∈ kr.S:=by
  obtain ⟨cs,Ss,_,_,_,h4,_⟩:=hd
  intro b hb
  rw [h4];exact List.mem_append_left _ hb
 have hrun:∀ l,W.ownsRow 0 61 5 kr.v kr.ks.length l → ∃ v2 W2,(Builtin.append_ #[59,59] 59 #[kr.v,.slice (some ⟨g,0,none⟩) 1 1]).run Tryz.prog W = .ok v2 W2 ∧ W2.ownsRow 0 61 5 v2 (kr.ks.length + 1) (l ++ ndC x kn.v) ∧ W.grownBy W2 kr.v.ownBlock ∧ (v2.ownBlock = kr.v.ownBlock ∨ v2.ownBlock = some W.heap.size):=fun l hl=>by
  obtain ⟨v2,w2,h1,h2,h3,_,h5⟩:=run_append_own_at (P:=Tryz.prog) (w:=W) 0 59 59 61 i0 _ 5 64 Tryz.underlying59 hi hz0 hz1 hz2 rfl (by decide) kr.v kr.ks.length l hl ⟨g,0,none⟩ 1 1 (ndC x kn.v) rfl (fun j u hu=>by rw [add0,blk_cell hg];simpa [ndC] using hu) (ndC_one _ _ (by obtain ⟨a,c,h⟩:=hns;exact ⟨a,_,c,h⟩)) (by unfold maxLen;omega) (by omega) (Nat.zero_le _)
  exact ⟨v2,w2,h1,h2,h3,h5⟩
 obtain ⟨l,hl⟩:=hown
 obtain ⟨v2,W2,hr,_,hgr,hob⟩:=hrun l hl
 have ht:Turned kr.v.ownBlock.toList W W2:=⟨hgr.os,hgr.tape,hgr.output,hgr.size,fun b hb hn=>hgr.block b hb (fun e=>hn (by simp [← e]))⟩
 obtain ⟨S2,hkv,hS2⟩:=KV.snoc hd2 he2 ht (fun b hb hm=>hdis b hb (hownS b hm)) hob (fun l' hl'=>by
  obtain ⟨v3,W3,hr3,ho3,-,-⟩:=hrun l' hl'
  rw [hr] at hr3
  cases hr3
  exact ho3)
 refine ⟨v2,W2,S2,hr,?_,?_,h.plt,h.own,fun l hl => ?_,fun k hk => ?_,h.ndl,fun l hl k hk => ?_,.cons (fun k hk b hb => ?_) (List.pairwise_cons.1 (List.pairwise_cons.1 h.ndk).2).2⟩
 ·exact h.P.kept ht (fun hm=>by have:=hrf _ (hownS _ hm);have:=h.plt;omega) (fun b hb hm=>by have:=hrf _ (hownS _ hm);have:=h.own _ hb;omega)
 ·exact ⟨ht.os.trans h.T.os,ht.tape.trans h.T.tape,ht.output.trans h.T.output,Nat.le_trans h.T.size ht.size,fun b hb hn=>(ht.block b (Nat.lt_of_lt_of_le hb h.T.size) (fun hm=>by have:=hrf _ (hownS _ hm);omega)).trans (h.T.block b hb hn)⟩
 ·exact ⟨(h.loc l hl).1,ht.kept (h.loc l hl).2 (fun hm=>h.dis l hl kr (by simp) (hownS _ hm))⟩
 ·rcases List.mem_cons.1 hk with rfl | hk
  ·refine ⟨⟨_,hkv⟩,fun b hb => ?_⟩
   rcases hS2 b hb with hb | hb | rfl
   ·exact hrf b hb
   ·exact hnf b hb
   ·exact h.T.size
  ·obtain ⟨h1,h2⟩:=h.trees k (by simp [hk])
   exact ⟨h1.turned ht (fun b hb hm=>hK' k hk b (hownS b hm) hb),h2⟩
 ·rcases List.mem_cons.1 hk with rfl | hk
  ·intro hm
   rcases hS2 _ hm with hb | hb | hb
   ·exact h.dis l hl kr (by simp) hb
   ·exact h.dis l hl kn (by simp) hb
   ·have:=blk_lt (h.loc l hl).2;omega
  ·exact h.dis l hl k (by simp [hk])
 ·intro hm
  rcases hS2 b hb with hb | hb | rfl
  ·exact hK' k hk b hb hm
  ·exact hKn k hk b hb hm
  ·have:=(h.trees k (by simp [hk])).1.lt _ hm;omega
structure Jobs (p:Nat) (v:Value) (E:PE) (f:Nat):Prop where
 bin:∀ (l:Nat) (li:Int) (s:PS) (x:Nd) (s2:PS) (W:World),li = l → l ≤ 4 → 16 * ms E s + rank (.bin l) ≤ f → run E f (.bin l) s = some ([x],s2) → PAt W p v E s → Calls Tryz.prog 110 #[PP p,.int .i64 li] W (NodeR p v E s2 x W)
 unary:∀ (s:PS) (x:Nd) (s2:PS) (W:World),16 * ms E s + rank .unary ≤ f → run E f .unary s = some ([x],s2) → PAt W p v E s → Calls Tryz.prog 151 #[PP p] W (NodeR p v E s2 x W)
 inner:∀ (s:PS) (x:Nd) (s2:PS) (W:World),16 * ms E s + rank .inner ≤ f → run E f .inner s = some ([x],s2) → PAt W p v E s → Calls Tryz.prog 201 #[PP p] W (NodeR p v E s2 x W)
 primary:∀ (s:PS) (x:Nd) (s2:PS) (W:World),16 * ms E s + rank .primary ≤ f → run E f .primary s = some ([x],s2) → PAt W p v E s → Calls Tryz.prog 184 #[PP p] W (NodeR p v E s2 x W)
 block:∀ (s:PS) (x:Nd) (s2:PS) (W:World),16 * ms E s + rank .block ≤ f → run E f .block s = some ([x],s2) → PAt W p v E s → Calls Tryz.prog 83 #[PP p] W (NodeR p v E s2 x W)
 stmt:∀ (s:PS) (x:Nd) (s2:PS) (W:World),16 * ms E s + rank .stmt ≤ f → run E f .stmt s = some ([x],s2) → PAt W p v E s → Calls Tryz.prog 57 #[PP p] W (NodeR p v E s2 x W)
set_option maxHeartbeats 1000000 in
theorem expr_any {p:Nat} {v:Value} {E:PE} {f:Nat} (J:Jobs p v E f) (s:PS) (x:Nd) (s2:PS) (W:World) (hf:16 * ms E s + rank (.bin 0) ≤ f) (hr:run E f (.bin 0) s = some ([x],s2)) (h:PAt W p v E s) :
  Calls Tryz.prog 82 #[PP p] W (NodeR p v E s2 x W):=by
 have HS:=Lib.hid (SW.start h)
 have HJ:=Lib.hid (fun W h=>J.bin 0 0 s x s2 W rfl (by omega) hf hr h)
 clear J hf hr h
 go_enter Tryz.func82,Tryz.ntmps82
 go_wp2_with fail
 refine (HJ.out _ (HS.out.alloc (ndO zero (.slice none 0 0))).P).mono ?_
 rintro e w2 ⟨aw2,nw2,Sw2,rfl,hk,hS,hP,hT⟩
 have HS2:=Lib.hid ((HS.out.alloc (ndO zero (.slice none 0 0))).callT hk hS hP hT)
 clear hk hS hP hT
 obtain ⟨r0,r1,r2,r3,r4,rf0,rf1,rf2,rf3,rf4,rl⟩:=HS2.out.c5 0 rfl
 go_wp2_with fail
 have HSF:=Lib.hid (HS2.out.set5 0 rfl (.int .i64 x.kind) (.string ⟨x.text.toArray⟩) (.float .f64 x.num) (.slice aw2 x.kids.length nw2) (.int .i64 x.at'))
 generalize (((((w2.setCell _ _).setCell _ _).setCell _ _).setCell _ _).setCell _ _) = wf at HSF ⊢
 obtain ⟨z0,z1,z2,z3,z4,zf0,zf1,zf2,zf3,zf4,zl⟩:=HSF.out.c5 0 rfl
 refine bodyPost_ret (v:=ndV x (.slice aw2 x.kids.length nw2)) (by simp [results,Tryz.results82,go_sem,z0,z1,z2,z3,z4]) rfl ?_
 exact HSF.out.node (List.mem_cons_self ..) x rfl
theorem SW.swap {w W:World} {p:Nat} {v:Value} {E:PE} {s:PS} {L:List (Nat × Obj)} {a b:Tr} {K:List Tr} (h:SW w W p v E s L (a :: b :: K)):SW w W p v E s L (b :: a :: K):=by
 have h1:=List.pairwise_cons.1 h.ndk
 have h2:=List.pairwise_cons.1 h1.2
 refine ⟨h.P,h.T,h.plt,h.own,h.loc,fun k hk=>h.trees k (by simp at hk ⊢;rcases hk with h | h | h <;> simp [h]),h.ndl,fun l hl k hk=>h.dis l hl k (by simp at hk ⊢;rcases hk with h | h | h <;> simp [h]),.cons (fun k hk x hx hx2 => ?_) (.cons (fun k hk=>h1.1 k (by simp [hk])) h2.2)⟩
 rcases List.mem_cons.1 hk with rfl | hk
 ·exact h1.1 b (by simp) x hx2 hx
 ·exact h2.1 k hk x hx hx2
theorem SW.allocAt {w W:World} {p:Nat} {v:Value} {E:PE} {s:PS} {L:List (Nat × Obj)} {K:List Tr} (h:SW w W p v E s L K) (o:Obj) (b:Nat) (hb:b = W.heap.size):SW w (W.alloc o) p v E s ((b,o) :: L) K:=by
 subst hb;exact h.alloc o
end Go.Proofs.YtmfpmandkhiknaaGreatDoor.par
