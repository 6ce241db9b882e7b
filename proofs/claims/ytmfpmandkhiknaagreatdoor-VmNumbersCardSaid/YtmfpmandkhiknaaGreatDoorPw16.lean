/-
  Proved: how a node's row is made and grows; what the parser's methods owe each other. Conditions: as each theorem says.
  Proved: what expr, inner, unary of the document's parser return. Conditions: as each theorem says.
  Proved: what binary of the document's parser returns. Conditions: as each theorem says.
-/
import Derived.Test.YtmfpmandkhiknaaGreatDoorPw15
import Derived.Maps.AppendAt
import Derived.Deep.LoopGhost
set_option linter.unusedVariables false
set_option linter.unusedSimpArgs false
namespace Go.Proofs.YtmfpmandkhiknaaGreatDoor.par
open Go.RowKit
open heap
open lex (Tk TRow TkAt run_store_float add0)
set_option maxRecDepth 100000
attribute [local go_sem] run_store_float
theorem infoN:(Tryz.prog.info? 61).map (fun i=>(i.zero,i.size,i.bytes)) = some (some (.agg #[.int .i64 0,.string ⟨#[]⟩,.float .f64 0,.slice none 0 0,.int .i64 0]),5,64):=by kernel_rfl
theorem depth_all {W:World}:∀ (ks:List Tr),(∀ k ∈ ks,k.ok W) → ∃ d,∀ k ∈ ks,KV 61 W d k.ks k.v k.S
 | [],_=>⟨0,by simp⟩
 | k :: r,h=>by
  obtain ⟨d,hd⟩:=depth_all r (fun q hq=>h q (List.mem_cons_of_mem _ hq))
  obtain ⟨e,he⟩:=h k (List.mem_cons_self ..)
  refine ⟨max d (e + 1),fun q hq => ?_⟩
  rcases List.mem_cons.1 hq with rfl | hq
  ·exact he.upto (Nat.le_max_right _ _)
  ·exact (hd q hq).upto (Nat.le_max_left _ _)
theorem rowC_len:∀ (xs:List Nd) (cs:List Value),cs.length = xs.length → (rowC xs cs).length = xs.length * 5
 | [],[],_=>rfl
 | x :: xs,c :: cs,h=>by
  have:=rowC_len xs cs (by simpa using h)
  simp only [rowC,List.length_append,this,List.length_cons]
  show 5 + _ = _
  omega
 | [],_ :: _,h=>by simp at h
 | _ :: _,[],h=>by simp at h
theorem Tr.build {W:World} (xs:List Nd) (ks:List Tr) (hx:xs.map Nd.kids = ks.map Tr.ks) (hk:∀ k ∈ ks,k.ok W) (hl:xs.length ≤ 100000) :
  (Tr.mk xs (.slice (some ⟨W.heap.size,0,none⟩) xs.length xs.length) (W.heap.size :: (ks.map Tr.S).flatten)).ok (W.alloc (.cells (rowC xs (ks.map Tr.v)).toArray 61 (0,0))):=by
 have hlen:xs.length = ks.length:=by simpa using congrArg List.length hx
 obtain ⟨d,hd⟩:=depth_all ks hk
 refine ⟨d,ks.map Tr.v,ks.map Tr.S,by simp [hlen],by simp [hlen],⟨rowC_len _ _ (by simp [hlen]),.inr ⟨W.heap.size,xs.length,_,rfl,Nat.zero_le _,blk_new _ _,Nat.le_refl _,by unfold maxLen;omega,?_,?_⟩⟩,by simp [Value.ownBlock],fun g hg hm => ?_,fun i x c s hx' hc hs => ?_⟩
 ·simp [rowC_len _ _ (show (ks.map Tr.v).length = xs.length by simp [hlen])]
 ·simp only []
  rw [List.take_of_length_le]
  rw [rowC_len _ _ (by simp [hlen])]
  exact Nat.le_refl _
 ·have:g = W.heap.size:=by simpa [Value.ownBlock] using hg
  subst this
  obtain ⟨S,hS,hg⟩:=List.mem_flatten.1 hm
  obtain ⟨k,hk',rfl⟩:=List.mem_map.1 hS
  have:=(hk k hk').lt _ hg
  omega
 ·have hx':xs[i]? = some x:=hx'
  have hi:i < ks.length:=by have:=(List.getElem?_eq_some_iff.1 hx').1;omega
  have e1:ks[i]? = some ks[i]:=List.getElem?_eq_getElem hi
  rw [List.getElem?_map,e1] at hc hs
  simp at hc hs
  have e2:(xs.map Nd.kids)[i]? = some x.kids:=by rw [List.getElem?_map,hx'];rfl
  rw [hx,List.getElem?_map,e1] at e2
  simp at e2
  rw [← e2,← hc,← hs]
  exact (hd _ (List.getElem_mem hi)).turned (R := []) ((Turned.refl _ _).alloc _) (by simp)
theorem SW.build {w W:World} {p:Nat} {v:Value} {E:PE} {s:PS} {L:List (Nat × Obj)} {K':List Tr} (ks:List Tr) (h:SW w W p v E s L (ks ++ K')) (xs:List Nd) (hx:xs.map Nd.kids = ks.map Tr.ks) (hl:xs.length ≤ 100000) :
  SW w (W.alloc (.cells (rowC xs (ks.map Tr.v)).toArray 61 (0,0))) p v E s L (⟨xs,.slice (some ⟨W.heap.size,0,none⟩) xs.length xs.length,W.heap.size :: (ks.map Tr.S).flatten⟩ :: K'):=by
 have h':=h.alloc (.cells (rowC xs (ks.map Tr.v)).toArray 61 (0,0))
 have hb:=Tr.build xs ks hx (fun k hk=>(h.trees k (List.mem_append_left _ hk)).1) hl
 refine ⟨h'.P,h'.T,h.plt,h.own,fun l hl=>h'.loc l (List.mem_cons_of_mem _ hl),fun k hk => ?_,h.ndl,fun l hl k hk => ?_,.cons (fun k hk x hx' hx2 => ?_) (List.pairwise_append.1 h.ndk).2.1⟩
 ·rcases List.mem_cons.1 hk with rfl | hk
  ·refine ⟨hb,fun b hb => ?_⟩
   rcases List.mem_cons.1 hb with rfl | hb
   ·exact h.T.size
   ·obtain ⟨S,hS,hg⟩:=List.mem_flatten.1 hb
    obtain ⟨k,hk',rfl⟩:=List.mem_map.1 hS
    exact (h.trees k (List.mem_append_left _ hk')).2 b hg
  ·exact h'.trees k (List.mem_append_right _ hk)
 ·rcases List.mem_cons.1 hk with rfl | hk
  ·intro hm
   rcases List.mem_cons.1 hm with hm | hm
   ·have:=blk_lt (h.loc l hl).2;omega
   ·obtain ⟨S,hS,hg⟩:=List.mem_flatten.1 hm
    obtain ⟨k,hk',rfl⟩:=List.mem_map.1 hS
    exact h.dis l hl k (List.mem_append_left _ hk') hg
  ·exact h.dis l hl k (List.mem_append_right _ hk)
 ·rcases List.mem_cons.1 hx' with rfl | hx'
  ·have:=(h.trees k (List.mem_append_right _ hk)).1.lt _ hx2;omega
  ·obtain ⟨S,hS,hg⟩:=List.mem_flatten.1 hx'
   obtain ⟨q,hq,rfl⟩:=List.mem_map.1 hS
   exact (List.pairwise_append.1 h.ndk).2.2 q hq k hk x hg hx2
theorem SW.buildAt {w W:World} {p:Nat} {v:Value} {E:PE} {s:PS} {L:List (Nat × Obj)} {K':List Tr} (ks:List Tr) (h:SW w W p v E s L (ks ++ K')) (xs:List Nd) (hx:xs.map Nd.kids = ks.map Tr.ks) (hl:xs.length ≤ 100000) (b:Nat) (hb:b = W.heap.size) (R:Array Value) (hR:R = (rowC xs (ks.map Tr.v)).toArray) (n:Nat) (hn:n = xs.length) :
  SW w (W.alloc (.cells R 61 (0,0))) p v E s L (⟨xs,.slice (some ⟨b,0,none⟩) n n,W.heap.size :: (ks.map Tr.S).flatten⟩ :: K'):=by
 subst hb hR hn
 exact SW.build ks h xs hx hl
theorem ndC_one (x:Nd) (c:Value) (hc:∃ a n m,c = .slice a n m):∀ u ∈ ndC x c,u.oneCell' = true:=by
 obtain ⟨a,n,m,rfl⟩:=hc
 intro u hu
 simp only [ndC,List.mem_cons,List.not_mem_nil,or_false] at hu
 rcases hu with rfl | rfl | rfl | rfl | rfl <;> rfl
theorem SW.append {w W:World} {p:Nat} {v:Value} {E:PE} {s:PS} {L:List (Nat × Obj)} {K':List Tr} {kr kn:Tr} (h:SW w W p v E s L (kn :: kr :: K')) (x:Nd) (hx:x.kids = kn.ks) (g:Nat) (hg:W.heap[g]? = some (ndO x kn.v)) (hn:kr.ks.length ≤ 1000000) :
  ∃ v2 W2 S2,(Builtin.append_ #[59,59] 59 #[kr.v,.slice (some ⟨g,0,none⟩) 1 1]).run Tryz.prog W = .ok v2 W2 ∧ SW w W2 p v E s L (⟨kr.ks ++ [x],v2,S2⟩ :: K'):=by
 obtain ⟨i0,hi,hz0,hz1,hz2⟩:=info_parts infoN
 obtain ⟨⟨d,hd⟩,hrf⟩:=h.trees kr (by simp)
 obtain ⟨hnk,hnf⟩:=h.trees kn (by simp)
 have hns:=hnk.slice
 obtain ⟨e,he⟩:=hnk
 have hdis:∀ b ∈ kn.S,b ∉ kr.S:=fun b hb=>(List.pairwise_cons.1 h.ndk).1 kr (by simp) b hb
 have hK':=(List.pairwise_cons.1 (List.pairwise_cons.1 h.ndk).2).1
 have hKn:∀ k ∈ K',∀ b ∈ kn.S,b ∉ k.S:=fun k hk b hb=>(List.pairwise_cons.1 h.ndk).1 k (by simp [hk]) b hb
 have hd2:KV 61 W (max d (e + 1) + 1) kr.ks kr.v kr.S:=hd.upto (by omega)
 have he2:KV 61 W (max d (e + 1)) x.kids kn.v kn.S:=by rw [hx];exact he.upto (by omega)
 have hown:∃ l,W.ownsRow 0 61 5 kr.v kr.ks.length l:=by
  obtain ⟨cs,Ss,_,_,h3,_⟩:=hd
  exact ⟨_,h3⟩
 have hownS:∀ b ∈ kr.v.ownBlock.toList,b ∈ kr.S:=by
  obtain ⟨cs,Ss,_,_,_,h4,_⟩:=hd
  intro b hb
  rw [h4];exact List.mem_append_left _ hb
 have hrun:∀ l,W.ownsRow 0 61 5 kr.v kr.ks.length l → ∃ v2 W2,(Builtin.append_ #[59,59] 59 #[kr.v,.slice (some ⟨g,0,none⟩) 1 1]).run Tryz.prog W = .ok v2 W2 ∧ W2.ownsRow 0 61 5 v2 (kr.ks.length + 1) (l ++ ndC x kn.v) ∧ W.grownBy W2 kr.v.ownBlock ∧ (v2.ownBlock = kr.v.ownBlock ∨ v2.ownBlock = some W.heap.size):=fun l hl=>by
  obtain ⟨v2,w2,h1,h2,h3,_,h5⟩:=run_append_own_at (P:=Tryz.prog) (w:=W) 0 59 59 61 i0 _ 5 64 Tryz.underlying59 hi hz0 hz1 hz2 rfl (by decide) kr.v kr.ks.length l hl ⟨g,0,none⟩ 1 1 (ndC x kn.v) rfl (fun j u hu=>by rw [add0,blk_cell hg];simpa [ndC] using hu) (ndC_one _ _ (by obtain ⟨a,c,h⟩:=hns;exact ⟨a,_,c,h⟩)) (by unfold maxLen;omega) (by omega) (Nat.zero_le _)
  exact ⟨v2,w2,h1,h2,h3,h5⟩
 obtain ⟨l,hl⟩:=hown
 obtain ⟨v2,W2,hr,_,hgr,hob⟩:=hrun l hl
 have ht:Turned kr.v.ownBlock.toList W W2:=⟨hgr.os,hgr.tape,hgr.output,hgr.size,fun b hb hn=>hgr.block b hb (fun e=>hn (by simp [← e]))⟩
 obtain ⟨S2,hkv,hS2⟩:=KV.snoc hd2 he2 ht (fun b hb hm=>hdis b hb (hownS b hm)) hob (fun l' hl'=>by
  obtain ⟨v3,W3,hr3,ho3,-,-⟩:=hrun l' hl'
  rw [hr] at hr3
  cases hr3
  exact ho3)
 refine ⟨v2,W2,S2,hr,?_,?_,h.plt,h.own,fun l hl => ?_,fun k hk => ?_,h.ndl,fun l hl k hk => ?_,.cons (fun k hk b hb => ?_) (List.pairwise_cons.1 (List.pairwise_cons.1 h.ndk).2).2⟩
 ·exact h.P.kept ht (fun hm=>by have:=hrf _ (hownS _ hm);have:=h.plt;omega) (fun b hb hm=>by have:=hrf _ (hownS _ hm);have:=h.own _ hb;omega)
 ·exact ⟨ht.os.trans h.T.os,ht.tape.trans h.T.tape,ht.output.trans h.T.output,Nat.le_trans h.T.size ht.size,fun b hb hn=>(ht.block b (Nat.lt_of_lt_of_le hb h.T.size) (fun hm=>by have:=hrf _ (hownS _ hm);omega)).trans (h.T.block b hb hn)⟩
 ·exact ⟨(h.loc l hl).1,ht.kept (h.loc l hl).2 (fun hm=>h.dis l hl kr (by simp) (hownS _ hm))⟩
 ·rcases List.mem_cons.1 hk with rfl | hk
  ·refine ⟨⟨_,hkv⟩,fun b hb => ?_⟩
   rcases hS2 b hb with hb | hb | rfl
   ·exact hrf b hb
   ·exact hnf b hb
   ·exact h.T.size
  ·obtain ⟨h1,h2⟩:=h.trees k (by simp [hk])
   exact ⟨h1.turned ht (fun b hb hm=>hK' k hk b (hownS b hm) hb),h2⟩
 ·rcases List.mem_cons.1 hk with rfl | hk
  ·intro hm
   rcases hS2 _ hm with hb | hb | hb
   ·exact h.dis l hl kr (by simp) hb
   ·exact h.dis l hl kn (by simp) hb
   ·have:=blk_lt (h.loc l hl).2;omega
  ·exact h.dis l hl k (by simp [hk])
 ·intro hm
  rcases hS2 b hb with hb | hb | rfl
  ·exact hK' k hk b hb hm
  ·exact hKn k hk b hb hm
  ·have:=(h.trees k (by simp [hk])).1.lt _ hm;omega
structure Jobs (p:Nat) (v:Value) (E:PE) (f:Nat):Prop where
 bin:∀ (l:Nat) (li:Int) (s:PS) (x:Nd) (s2:PS) (W:World),li = l → l ≤ 4 → 16 * ms E s + rank (.bin l) ≤ f → run E f (.bin l) s = some ([x],s2) → PAt W p v E s → Calls Tryz.prog 110 #[PP p,.int .i64 li] W (NodeR p v E s2 x W)
 unary:∀ (s:PS) (x:Nd) (s2:PS) (W:World),16 * ms E s + rank .unary ≤ f → run E f .unary s = some ([x],s2) → PAt W p v E s → Calls Tryz.prog 151 #[PP p] W (NodeR p v E s2 x W)
 inner:∀ (s:PS) (x:Nd) (s2:PS) (W:World),16 * ms E s + rank .inner ≤ f → run E f .inner s = some ([x],s2) → PAt W p v E s → Calls Tryz.prog 201 #[PP p] W (NodeR p v E s2 x W)
 primary:∀ (s:PS) (x:Nd) (s2:PS) (W:World),16 * ms E s + rank .primary ≤ f → run E f .primary s = some ([x],s2) → PAt W p v E s → Calls Tryz.prog 184 #[PP p] W (NodeR p v E s2 x W)
 block:∀ (s:PS) (x:Nd) (s2:PS) (W:World),16 * ms E s + rank .block ≤ f → run E f .block s = some ([x],s2) → PAt W p v E s → Calls Tryz.prog 83 #[PP p] W (NodeR p v E s2 x W)
 stmt:∀ (s:PS) (x:Nd) (s2:PS) (W:World),16 * ms E s + rank .stmt ≤ f → run E f .stmt s = some ([x],s2) → PAt W p v E s → Calls Tryz.prog 57 #[PP p] W (NodeR p v E s2 x W)
set_option maxHeartbeats 1000000 in
theorem expr_any {p:Nat} {v:Value} {E:PE} {f:Nat} (J:Jobs p v E f) (s:PS) (x:Nd) (s2:PS) (W:World) (hf:16 * ms E s + rank (.bin 0) ≤ f) (hr:run E f (.bin 0) s = some ([x],s2)) (h:PAt W p v E s) :
  Calls Tryz.prog 82 #[PP p] W (NodeR p v E s2 x W):=by
 have HS:=Lib.hid (SW.start h)
 have HJ:=Lib.hid (fun W h=>J.bin 0 0 s x s2 W rfl (by omega) hf hr h)
 clear J hf hr h
 go_enter Tryz.func82,Tryz.ntmps82
 go_wp2_with fail
 refine (HJ.out _ (HS.out.alloc (ndO zero (.slice none 0 0))).P).mono ?_
 rintro e w2 ⟨aw2,nw2,Sw2,rfl,hk,hS,hP,hT⟩
 have HS2:=Lib.hid ((HS.out.alloc (ndO zero (.slice none 0 0))).callT hk hS hP hT)
 clear hk hS hP hT
 obtain ⟨r0,r1,r2,r3,r4,rf0,rf1,rf2,rf3,rf4,rl⟩:=HS2.out.c5 0 rfl
 go_wp2_with fail
 have HSF:=Lib.hid (HS2.out.set5 0 rfl (.int .i64 x.kind) (.string ⟨x.text.toArray⟩) (.float .f64 x.num) (.slice aw2 x.kids.length nw2) (.int .i64 x.at'))
 generalize (((((w2.setCell _ _).setCell _ _).setCell _ _).setCell _ _).setCell _ _) = wf at HSF ⊢
 obtain ⟨z0,z1,z2,z3,z4,zf0,zf1,zf2,zf3,zf4,zl⟩:=HSF.out.c5 0 rfl
 refine bodyPost_ret (v:=ndV x (.slice aw2 x.kids.length nw2)) (by simp [results,Tryz.results82,go_sem,z0,z1,z2,z3,z4]) rfl ?_
 exact HSF.out.node (List.mem_cons_self ..) x rfl
theorem begins_sT (E:PE) (s:PS):begins E (sT E s) = begins E s:=by
 unfold begins called
 rw [tk_sT,isS_sT,isS_sT,isS_sT,sT_i]
theorem begins_fix (p:Nat) (v:Value) (E:PE) (s s2:PS) (b:Bool) (w:World) (h:PAt w p v E s2) (hs:s2 = sT E s) (hb:begins E s = b) :
  Calls Tryz.prog 185 #[PP p] w fun e w'=>e = .returned (.bool b) ∧ PAt w' p v E s2 ∧ Turned [p] w w':=by
 have:=begins_any p v E s2 b w h (by rw [hs,begins_sT];exact hb)
 rw [show sT E s2 = s2 by rw [hs,sT_sT]] at this
 exact this
theorem into_fix (p:Nat) (v:Value) (E:PE) (s s2:PS) (a:Int) (b:Bool) (w:World) (h:PAt w p v E s) (hi:into s a = (b,s2)) :
  Calls Tryz.prog 111 #[PP p,.int .i64 a] w fun e w'=>e = .returned (.bool b) ∧ PAt w' p v E s2 ∧ Turned [p] w w':=by
 have:=into_any p v E s a w h
 rw [hi] at this
 exact this
set_option maxHeartbeats 1000000 in
theorem inner_step {p:Nat} {v:Value} {E:PE} {f:Nat} (J:Jobs p v E f) (s:PS) (x:Nd) (s2:PS) (W:World) (hf:16 * ms E s + rank .inner ≤ f + 1) (hr:run E (f + 1) .inner s = some ([x],s2)) (h:PAt W p v E s) :
  Calls Tryz.prog 201 #[PP p] W (NodeR p v E s2 x W):=by
 have HS:=Lib.hid (SW.start h)
 have HTA:=Lib.hid (fun W h=>t_any p v E s W h)
 clear h
 rw [run] at hr
 cases hb:begins E s with
 | false =>
  rw [if_neg (by rw [hb];exact Bool.false_ne_true)] at hr
  cases hr
  have HB:=Lib.hid (fun W h=>begins_fix p v E s _ false W h rfl hb)
  have HW:=Lib.hid (fun W h=>wrong_any p v E (sT E s) W h)
  clear J hf hb
  generalize wrong E (sT E s) = s9 at *
  generalize sT E s = s1 at *
  generalize tk E s = t at *
  go_enter Tryz.func201,Tryz.ntmps201
  go_wp2_with fail
  have HS0:=Lib.hid (HS.out.alloc (ndO zero (.slice none 0 0)))
  refine (HTA.out _ HS0.out.P).mono ?_
  rintro e w2 ⟨rfl,hP,hT⟩
  have HS1:=Lib.hid (HS0.out.call hP hT)
  clear hP hT HS0
  have HS2:=Lib.hid (HS1.out.alloc (tnO t))
  go_wp2_with fail
  refine (HB.out _ HS2.out.P).mono ?_
  rintro e w3 ⟨rfl,hP,hT⟩
  have HS3:=Lib.hid (HS2.out.call hP hT)
  clear hP hT HS2
  go_wp2_with fail
  refine (HW.out _ HS3.out.P).mono ?_
  rintro e w4 ⟨⟨uw4,rfl⟩,hP,hT⟩
  have HS4:=Lib.hid (HS3.out.call hP hT)
  clear hP hT HS3
  obtain ⟨r0,r1,r2,r3,r4,rf0,rf1,rf2,rf3,rf4,rl⟩:=HS4.out.c5 1 rfl
  go_wp2_with fail
  have HSF:=Lib.hid (HS4.out.set5 1 rfl (.int .i64 0) (.string ⟨#[]⟩) (.float .f64 0) (.slice none 0 0) (.int .i64 0))
  generalize (((((w4.setCell _ _).setCell _ _).setCell _ _).setCell _ _).setCell _ _) = wf at HSF ⊢
  obtain ⟨z0,z1,z2,z3,z4,zf0,zf1,zf2,zf3,zf4,zl⟩:=HSF.out.c5 1 rfl
  refine bodyPost_ret (v:=.agg #[.int .i64 0,.string ⟨#[]⟩,.float .f64 0,.slice none 0 0,.int .i64 0]) (by simp [results,Tryz.results201,go_sem,z0,z1,z2,z3,z4]) rfl ?_
  exact HSF.out.leaf zero rfl
 | true =>
  rw [if_pos hb] at hr
  have HB:=Lib.hid (fun W h=>begins_fix p v E s _ true W h rfl hb)
  obtain ⟨bi,si,hi⟩:∃ bi si,into (sT E s) (tk E s).at' = (bi,si):=⟨_,_,rfl⟩
  have HI:=Lib.hid (fun W h=>into_fix p v E (sT E s) si _ bi W h hi)
  rw [hi] at hr
  cases bi with
  | false =>
   rw [if_neg Bool.false_ne_true] at hr
   cases hr
   clear J hf hb hi
   generalize sT E s = s1 at *
   generalize tk E s = t at *
   go_enter Tryz.func201,Tryz.ntmps201
   go_wp2_with fail
   have HS0:=Lib.hid (HS.out.alloc (ndO zero (.slice none 0 0)))
   refine (HTA.out _ HS0.out.P).mono ?_
   rintro e w2 ⟨rfl,hP,hT⟩
   have HS1:=Lib.hid (HS0.out.call hP hT)
   clear hP hT HS0
   have HS2:=Lib.hid (HS1.out.alloc (tnO t))
   go_wp2_with fail
   refine (HB.out _ HS2.out.P).mono ?_
   rintro e w3 ⟨rfl,hP,hT⟩
   have HS3:=Lib.hid (HS2.out.call hP hT)
   clear hP hT HS2
   obtain ⟨t0,t1,t2,t3,tf0,tf1,tf2,tf3,tl⟩:=HS3.out.c4 0 rfl
   go_wp2_with fail
   clear t0 t1 t2 t3 tf0 tf1 tf2 tf3 tl
   refine (HI.out _ HS3.out.P).mono ?_
   rintro e w4 ⟨rfl,hP,hT⟩
   have HS4:=Lib.hid (HS3.out.call hP hT)
   clear hP hT HS3
   obtain ⟨r0,r1,r2,r3,r4,rf0,rf1,rf2,rf3,rf4,rl⟩:=HS4.out.c5 1 rfl
   go_wp2_with fail
   have HSF:=Lib.hid (HS4.out.set5 1 rfl (.int .i64 0) (.string ⟨#[]⟩) (.float .f64 0) (.slice none 0 0) (.int .i64 0))
   generalize (((((w4.setCell _ _).setCell _ _).setCell _ _).setCell _ _).setCell _ _) = wf at HSF ⊢
   obtain ⟨z0,z1,z2,z3,z4,zf0,zf1,zf2,zf3,zf4,zl⟩:=HSF.out.c5 1 rfl
   refine bodyPost_ret (v:=.agg #[.int .i64 0,.string ⟨#[]⟩,.float .f64 0,.slice none 0 0,.int .i64 0]) (by simp [results,Tryz.results201,go_sem,z0,z1,z2,z3,z4]) rfl ?_
   exact HSF.out.leaf zero rfl
  | true =>
   rw [if_pos rfl] at hr
   have hm:ms E si ≤ ms E s:=by
    have:=ms_into E (sT E s) (tk E s).at'
    rw [hi] at this
    exact Nat.le_trans this (ms_sT E s)
   simp only [rank] at hf
   obtain ⟨y,s3,h1,h2,-⟩:=(run_ends E f (.bin 0) si (by simp [okJ]) (by simp only [rank];omega)).one rfl
   simp only [h1] at hr
   cases hr
   have HJ:=Lib.hid (fun W h=>expr_any J si x s3 W (by simp only [rank];omega) h1 h)
   clear J hf hb hi h1 h2 hm
   generalize sT E s = s1 at *
   generalize tk E s = t at *
   go_enter Tryz.func201,Tryz.ntmps201
   go_wp2_with fail
   have HS0:=Lib.hid (HS.out.alloc (ndO zero (.slice none 0 0)))
   refine (HTA.out _ HS0.out.P).mono ?_
   rintro e w2 ⟨rfl,hP,hT⟩
   have HS1:=Lib.hid (HS0.out.call hP hT)
   clear hP hT HS0
   have HS2:=Lib.hid (HS1.out.alloc (tnO t))
   go_wp2_with fail
   refine (HB.out _ HS2.out.P).mono ?_
   rintro e w3 ⟨rfl,hP,hT⟩
   have HS3:=Lib.hid (HS2.out.call hP hT)
   clear hP hT HS2
   obtain ⟨t0,t1,t2,t3,tf0,tf1,tf2,tf3,tl⟩:=HS3.out.c4 0 rfl
   go_wp2_with fail
   clear t0 t1 t2 t3 tf0 tf1 tf2 tf3 tl
   refine (HI.out _ HS3.out.P).mono ?_
   rintro e w4 ⟨rfl,hP,hT⟩
   have HS4:=Lib.hid (HS3.out.call hP hT)
   clear hP hT HS3
   go_wp2_with fail
   refine (HJ.out _ HS4.out.P).mono ?_
   rintro e w5 ⟨aw5,nw5,Sw5,rfl,hk,hS,hP,hT⟩
   have HS5:=Lib.hid (HS4.out.callT hk hS hP hT)
   clear hk hS hP hT
   have HS6:=Lib.hid (HS5.out.alloc (ndO x (.slice aw5 x.kids.length nw5)))
   have hcs:=HS5.out.P.cells
   have q6:=hcs.c6
   have f6:=hcs.f6
   have hpl:=HS5.out.P.lt
   clear hcs
   obtain ⟨r0,r1,r2,r3,r4,rf0,rf1,rf2,rf3,rf4,rl⟩:=HS5.out.c5 1 rfl
   obtain ⟨rn,rm⟩:=HS5.out.ne 1 rfl
   go_wp2_with fail
   have HSF:=Lib.hid (((HS5.out.out).set5 1 rfl (.int .i64 x.kind) (.string ⟨x.text.toArray⟩) (.float .f64 x.num) (.slice aw5 x.kids.length nw5) (.int .i64 x.at')).alloc (ndO x (.slice aw5 x.kids.length nw5)))
   generalize (World.alloc ((((((w5.setCell _ _).setCell _ _).setCell _ _).setCell _ _).setCell _ _).setCell _ _) _) = wf at HSF ⊢
   obtain ⟨z0,z1,z2,z3,z4,zf0,zf1,zf2,zf3,zf4,zl⟩:=HSF.out.c5 2 rfl
   refine bodyPost_ret (v:=ndV x (.slice aw5 x.kids.length nw5)) (by simp [results,Tryz.results201,go_sem,z0,z1,z2,z3,z4]) rfl ?_
   exact HSF.out.node (List.mem_cons_self ..) x rfl
set_option maxHeartbeats 1000000 in
theorem unary_step {p:Nat} {v:Value} {E:PE} {f:Nat} (J:Jobs p v E f) (s:PS) (x:Nd) (s2:PS) (W:World) (hf:16 * ms E s + rank .unary ≤ f + 1) (hr:run E (f + 1) .unary s = some ([x],s2)) (h:PAt W p v E s) :
  Calls Tryz.prog 151 #[PP p] W (NodeR p v E s2 x W):=by
 have HS:=Lib.hid (SW.start h)
 have HTA:=Lib.hid (fun W h=>t_any p v E s W h)
 have hlt:(tk E s).kind ≠ 0 → (sT E s).i < E.ts.length:=fun h=>by rw [sT_i];exact (tk_kind h).2.1
 clear h
 simp only [rank] at hf
 rw [run] at hr
 have H45:=Lib.hid (fun W h=>sign_fix p v E s _ [45] _ W h rfl rfl)
 have H33:=Lib.hid (fun W h=>sign_fix p v E s _ [33] _ W h rfl rfl)
 cases hsg:(isS E [45] s || isS E [33] s) with
 | false =>
  rw [if_neg (by rw [hsg];exact Bool.false_ne_true)] at hr
  have HJ:=Lib.hid (fun W h=>J.primary (sT E s) x s2 W (by simp only [rank];have:=ms_sT E s;omega) hr h)
  obtain ⟨e45,e33⟩:isS E [45] s = false ∧ isS E [33] s = false:=by simpa using hsg
  rw [e45] at H45
  rw [e33] at H33
  clear J hf hr hlt hsg e45 e33
  generalize sT E s = s1 at *
  generalize tk E s = t at *
  go_enter Tryz.func151,Tryz.ntmps151
  go_wp2_with fail
  have HS0:=Lib.hid (HS.out.alloc (ndO zero (.slice none 0 0)))
  refine (HTA.out _ HS0.out.P).mono ?_
  rintro e w2 ⟨rfl,hP,hT⟩
  have HS1:=Lib.hid (HS0.out.call hP hT)
  clear hP hT HS0
  have HS2:=Lib.hid (HS1.out.alloc (tnO t))
  go_wp2_with fail
  refine (H45.out _ HS2.out.P).mono ?_
  rintro e w3 ⟨rfl,hP,hT⟩
  have HS3:=Lib.hid (HS2.out.call hP hT)
  clear hP hT HS2
  go_wp2_with fail
  refine (H33.out _ HS3.out.P).mono ?_
  rintro e w4 ⟨rfl,hP,hT⟩
  have HS4:=Lib.hid (HS3.out.call hP hT)
  clear hP hT HS3
  go_wp2_with fail
  refine (HJ.out _ HS4.out.P).mono ?_
  rintro e w5 ⟨aw5,nw5,Sw5,rfl,hk,hS,hP,hT⟩
  have HS5:=Lib.hid (HS4.out.callT hk hS hP hT)
  clear hk hS hP hT
  obtain ⟨r0,r1,r2,r3,r4,rf0,rf1,rf2,rf3,rf4,rl⟩:=HS5.out.c5 1 rfl
  go_wp2_with fail
  have HSF:=Lib.hid ((HS5.out.set5 1 rfl (.int .i64 x.kind) (.string ⟨x.text.toArray⟩) (.float .f64 x.num) (.slice aw5 x.kids.length nw5) (.int .i64 x.at')))
  generalize (((((w5.setCell _ _).setCell _ _).setCell _ _).setCell _ _).setCell _ _) = wf at HSF ⊢
  obtain ⟨z0,z1,z2,z3,z4,zf0,zf1,zf2,zf3,zf4,zl⟩:=HSF.out.c5 1 rfl
  refine bodyPost_ret (v:=ndV x (.slice aw5 x.kids.length nw5)) (by simp [results,Tryz.results151,go_sem,z0,z1,z2,z3,z4]) rfl ?_
  exact HSF.out.node (List.mem_cons_self ..) x rfl
 | true =>
  rw [if_pos hsg] at hr
  have hk:(tk E s).kind = 4:=by
   rcases Bool.or_eq_true_iff.1 hsg with h | h
   ·exact (isS_kind h).1
   ·exact (isS_kind h).1
  have hi:=hlt (by rw [hk];decide)
  have hm1:ms E (inc (sT E s)) < ms E s:=ms_inc (by rw [hk];decide)
  have HSG:Hid (isS E [45] s = true ∨ (isS E [45] s = false ∧ isS E [33] s = true)):=by
   unfold Hid
   cases h:isS E [45] s
   ·rw [h] at hsg;exact .inr ⟨rfl,by simpa using hsg⟩
   ·exact .inl rfl
  generalize isS E [45] s = b45 at *
  generalize isS E [33] s = b33 at *
  generalize sT E s = s1 at *
  generalize tk E s = t at *
  have HTB:=Lib.hid (fun W h=>t_any p v E (inc s1) W h)
  have HB:=Lib.hid (fun W h=>begins_fix p v E (inc s1) _ _ W h rfl rfl)
  have HW:=Lib.hid (fun W h=>wrong_any p v E (sT E (inc s1)) W h)
  have HI:=Lib.hid (fun W h=>into_any p v E (sT E (inc s1)) (tk E (inc s1)).at' W h)
  have hmi:=ms_into E (sT E (inc s1)) (tk E (inc s1)).at'
  have hms:=ms_sT E (inc s1)
  have HR:=Lib.hid hr
  generalize begins E (inc s1) = bb at *
  generalize wrong E (sT E (inc s1)) = s9 at *
  generalize sT E (inc s1) = s3 at *
  generalize tk E (inc s1) = t2 at *
  generalize into s3 t2.at' = io at *
  obtain ⟨bi,si⟩:=io
  have HM:Hid (16 * ms E si + 3 ≤ f):=by
   unfold Hid
   simp only at hmi
   omega
  have HJJ:=Lib.hid J
  clear J hf hlt hsg hk hm1 hr hmi hms
  go_enter Tryz.func151,Tryz.ntmps151
  go_wp2_with fail
  have HS0:=Lib.hid (HS.out.alloc (ndO zero (.slice none 0 0)))
  refine (HTA.out _ HS0.out.P).mono ?_
  rintro e w2 ⟨rfl,hP,hT⟩
  have HS1:=Lib.hid (HS0.out.call hP hT)
  clear hP hT HS0
  have HS2:=Lib.hid (HS1.out.alloc (tnO t))
  go_upto_region 2 with fail
  go_cut [15] from 8 to 15 (fun s15 wx=>s15 = .bool false ∧ Hid (SW W wx p v E s1 [(w2.heap.size,tnO t),(W.heap.size,ndO zero (.slice none 0 0))] []))
  case first =>
   rcases HSG.out with h | ⟨h,h'⟩
   ·rw [h] at H45
    clear HSG h
    go_wp2_with fail
    refine (H45.out _ HS2.out.P).mono ?_
    rintro e w3 ⟨rfl,hP,hT⟩
    have HS3:=Lib.hid (HS2.out.call hP hT)
    clear hP hT HS2
    go_wp2_with fail
    go_meet
    exact ⟨rfl,HS3⟩
   ·rw [h] at H45
    rw [h'] at H33
    clear HSG h h'
    go_wp2_with fail
    refine (H45.out _ HS2.out.P).mono ?_
    rintro e w3 ⟨rfl,hP,hT⟩
    have HS3:=Lib.hid (HS2.out.call hP hT)
    clear hP hT HS2
    go_wp2_with fail
    refine (H33.out _ HS3.out.P).mono ?_
    rintro e w4 ⟨rfl,hP,hT⟩
    have HS4:=Lib.hid (HS3.out.call hP hT)
    clear hP hT HS3
    go_wp2_with fail
    go_meet
    exact ⟨rfl,HS4⟩
  case rest =>
  obtain ⟨rfl,HS3⟩:=hcut
  clear HSG H45 H33 HS2
  have hcs:=HS3.out.P.cells
  have hpl:=HS3.out.P.lt
  have hle:=HS3.out.P.le
  have hlen:=HS3.out.P.len
  have q1:=hcs.c1
  have f1:=hcs.f1
  clear hcs
  rename_i wx
  have HS4:=Lib.hid (HS3.out.inc hi)
  go_wp2_with fail
  clear q1 f1 hle hlen
  refine (HTB.out _ HS4.out.P).mono ?_
  rintro e w5 ⟨rfl,hP,hT⟩
  have HS5:=Lib.hid (HS4.out.call hP hT)
  clear hP hT HS4
  have HS6:=Lib.hid (HS5.out.alloc (tnO t2))
  go_wp2_with fail
  refine (HB.out _ HS6.out.P).mono ?_
  rintro e w7 ⟨rfl,hP,hT⟩
  have HS7:=Lib.hid (HS6.out.call hP hT)
  clear hP hT HS6
  cases bb with
  | false =>
   have hr:=HR.out
   rw [if_neg Bool.false_ne_true] at hr
   cases hr
   go_wp2_with fail
   refine (HW.out _ HS7.out.P).mono ?_
   rintro e w8 ⟨⟨uw8,rfl⟩,hP,hT⟩
   have HS8:=Lib.hid (HS7.out.call hP hT)
   clear hP hT HS7
   obtain ⟨r0,r1,r2,r3,r4,rf0,rf1,rf2,rf3,rf4,rl⟩:=HS8.out.c5 2 rfl
   go_wp2_with fail
   have HSF:=Lib.hid (HS8.out.set5 2 rfl (.int .i64 0) (.string ⟨#[]⟩) (.float .f64 0) (.slice none 0 0) (.int .i64 0))
   generalize (((((w8.setCell _ _).setCell _ _).setCell _ _).setCell _ _).setCell _ _) = wf at HSF ⊢
   obtain ⟨z0,z1,z2,z3,z4,zf0,zf1,zf2,zf3,zf4,zl⟩:=HSF.out.c5 2 rfl
   refine bodyPost_ret (v:=.agg #[.int .i64 0,.string ⟨#[]⟩,.float .f64 0,.slice none 0 0,.int .i64 0]) (by simp [results,Tryz.results151,go_sem,z0,z1,z2,z3,z4]) rfl ?_
   exact HSF.out.leaf zero rfl
  | true =>
   obtain ⟨t0,t1,t2,t3,tf0,tf1,tf2,tf3,tl⟩:=HS7.out.c4 0 rfl
   go_wp2_with fail
   clear t0 t1 t2 t3 tf0 tf1 tf2 tf3 tl
   refine (HI.out _ HS7.out.P).mono ?_
   rintro e w8 ⟨rfl,hP,hT⟩
   have HS8:=Lib.hid (HS7.out.call hP hT)
   clear hP hT HS7
   have hr:=HR.out
   simp only [↓reduceIte] at hr
   cases bi with
   | false =>
    simp only [Bool.false_eq_true,↓reduceIte] at hr
    cases hr
    obtain ⟨r0,r1,r2,r3,r4,rf0,rf1,rf2,rf3,rf4,rl⟩:=HS8.out.c5 2 rfl
    go_wp2_with fail
    have HSF:=Lib.hid (HS8.out.set5 2 rfl (.int .i64 0) (.string ⟨#[]⟩) (.float .f64 0) (.slice none 0 0) (.int .i64 0))
    generalize (((((w8.setCell _ _).setCell _ _).setCell _ _).setCell _ _).setCell _ _) = wf at HSF ⊢
    obtain ⟨z0,z1,z2,z3,z4,zf0,zf1,zf2,zf3,zf4,zl⟩:=HSF.out.c5 2 rfl
    refine bodyPost_ret (v:=.agg #[.int .i64 0,.string ⟨#[]⟩,.float .f64 0,.slice none 0 0,.int .i64 0]) (by simp [results,Tryz.results151,go_sem,z0,z1,z2,z3,z4]) rfl ?_
    exact HSF.out.leaf zero rfl
   | true =>
    simp only [↓reduceIte] at hr
    obtain ⟨y,s4,h1,h2,-⟩:=(run_ends E f .unary si (by simp [okJ]) (by simp only [rank];exact HM.out)).one rfl
    simp only [h1] at hr
    cases hr
    have HJ:=Lib.hid (fun W h=>HJJ.out.unary si y s4 W (by simp only [rank];exact HM.out) h1 h)
    clear HR HJJ HM h1 h2
    go_wp2_with fail
    refine (HJ.out _ HS8.out.P).mono ?_
    rintro e w9 ⟨aw9,nw9,Sw9,rfl,hk,hS,hP,hT⟩
    have HS9:=Lib.hid (HS8.out.callT hk hS hP hT)
    clear hk hS hP hT
    have hcs:=HS9.out.P.cells
    have q6:=hcs.c6
    have f6:=hcs.f6
    have hpl:=HS9.out.P.lt
    clear hcs
    obtain ⟨r0,r1,r2,r3,r4,rf0,rf1,rf2,rf3,rf4,rl⟩:=HS9.out.c5 2 rfl
    obtain ⟨t0,t1,t2,t3,tf0,tf1,tf2,tf3,tl⟩:=HS9.out.c4 1 rfl
    obtain ⟨rn,rm⟩:=HS9.out.ne 2 rfl
    obtain ⟨tn,tm⟩:=HS9.out.ne 1 rfl
    go_wp2_with fail
    have HSF:=Lib.hid ((SW.buildAt [_] (((HS9.out.out).set5 2 rfl (.int .i64 17) (.string ⟨t.text.toArray⟩) (.float .f64 0) (.slice (some ⟨w9.heap.size + 1,0,none⟩) 1 1) (.int .i64 t.at')).alloc (ndO y (.slice aw9 y.kids.length nw9))) [y] rfl (by simp) (w9.heap.size + 1) (by simp) #[.int .i64 y.kind,.string ⟨y.text.toArray⟩,.float .f64 y.num,.slice aw9 y.kids.length nw9,.int .i64 y.at'] rfl 1 rfl))
    generalize (World.alloc (World.alloc ((((((w9.setCell _ _).setCell _ _).setCell _ _).setCell _ _).setCell _ _).setCell _ _) _) _) = wf at HSF ⊢
    obtain ⟨z0,z1,z2,z3,z4,zf0,zf1,zf2,zf3,zf4,zl⟩:=HSF.out.c5 3 rfl
    refine bodyPost_ret (v:=.agg #[.int .i64 17,.string ⟨t.text.toArray⟩,.float .f64 0,.slice (some ⟨w9.heap.size + 1,0,none⟩) 1 1,.int .i64 t.at']) (by simp [results,Tryz.results151,go_sem,z0,z1,z2,z3,z4]) rfl ?_
    exact HSF.out.node (List.mem_cons_self ..) (.mk 17 t.text 0 [y] t.at') rfl
theorem SW.swap {w W:World} {p:Nat} {v:Value} {E:PE} {s:PS} {L:List (Nat × Obj)} {a b:Tr} {K:List Tr} (h:SW w W p v E s L (a :: b :: K)):SW w W p v E s L (b :: a :: K):=by
 have h1:=List.pairwise_cons.1 h.ndk
 have h2:=List.pairwise_cons.1 h1.2
 refine ⟨h.P,h.T,h.plt,h.own,h.loc,fun k hk=>h.trees k (by simp at hk ⊢;rcases hk with h | h | h <;> simp [h]),h.ndl,fun l hl k hk=>h.dis l hl k (by simp at hk ⊢;rcases hk with h | h | h <;> simp [h]),.cons (fun k hk x hx hx2 => ?_) (.cons (fun k hk=>h1.1 k (by simp [hk])) h2.2)⟩
 rcases List.mem_cons.1 hk with rfl | hk
 ·exact h1.1 b (by simp) x hx2 hx
 ·exact h2.1 k hk x hx hx2
abbrev sgO (gs:List (List UInt8)):Obj:=.cells (gs.map fun g=>Value.string ⟨g.toArray⟩).toArray 9 (0,0)
theorem sg_cell {w W:World} {p:Nat} {v:Value} {E:PE} {s:PS} {L:List (Nat × Obj)} {K:List Tr} (h:SW w W p v E s L K) (n:Nat) {b:Nat} {gs:List (List UInt8)} (hn:L[n]? = some (b,sgO gs)) (j:Nat) (g:List UInt8) (hg:gs[j]? = some g):W.cell? ⟨b,j,none⟩ = some (.string ⟨g.toArray⟩):=by
 rw [h.cell n hn j]
 simp [hg]
theorem SW.allocAt {w W:World} {p:Nat} {v:Value} {E:PE} {s:PS} {L:List (Nat × Obj)} {K:List Tr} (h:SW w W p v E s L K) (o:Obj) (b:Nat) (hb:b = W.heap.size):SW w (W.alloc o) p v E s ((b,o) :: L) K:=by
 subst hb;exact h.alloc o
theorem sg_world {w W:World} {p:Nat} {v:Value} {E:PE} {s:PS} (h:SW w W p v E s [] []) (z a b c d o:Obj) :
  SW w ((((((W.alloc z).alloc a).alloc b).alloc c).alloc d).alloc o) p v E s [(W.heap.size + 1 + 1 + 1 + 1 + 1,o),(W.heap.size + 1 + 1 + 1 + 1,d),(W.heap.size + 1 + 1 + 1,c),(W.heap.size + 1 + 1,b),(W.heap.size + 1,a),(W.heap.size,z)] []:=
 (((((h.alloc z).allocAt a _ (by simp)).allocAt b _ (by simp)).allocAt c _ (by simp)).allocAt d _ (by simp)).allocAt o _ (by simp)
def BinI (W:World) (p:Nat) (v:Value) (E:PE) (gs:List (List UInt8)) (l bx bg:Nat) (x:Nd) (s2:PS) (f k:Nat) (wr:World):Prop:=
 ∃ (y:Nd) (s3:PS) (a:Option Addr) (n:Nat) (S:List Nat),SW W wr p v E s3 [(bx,ndO y (.slice a y.kids.length n)),(bg,sgO gs),(W.heap.size,ndO zero (.slice none 0 0))] [⟨y.kids,.slice a y.kids.length n,S⟩] ∧
  run E k (.binL l y) s3 = some ([x],s2) ∧ 16 * ms E s3 + 1 ≤ k ∧ k ≤ f
theorem any_take {gs:List (List UInt8)} {q:List UInt8 → Bool} {j:Nat} {g:List UInt8} (h:gs[j]? = some g):(gs.take (j + 1)).any q = ((gs.take j).any q || q g):=by
 rw [List.take_add_one,h,List.any_append]
 simp
set_option maxHeartbeats 4000000 in
theorem bin_step {p:Nat} {v:Value} {E:PE} {f:Nat} (J:∀ k,k ≤ f → Jobs p v E k) (l:Nat) (hl:l ≤ 4) (s:PS) (x:Nd) (s2:PS) (W:World) (hf:16 * ms E s + rank (.bin l) ≤ f + 1) (hr:run E (f + 1) (.bin l) s = some ([x],s2)) (h:PAt W p v E s) :
  Calls Tryz.prog 110 #[PP p,.int .i64 l] W (NodeR p v E s2 x W):=by
 have HS:=Lib.hid (SW.start h)
 clear h
 simp only [rank] at hf
 rw [run] at hr
 by_cases h4:l = 4
 ·subst h4
  rw [if_pos rfl] at hr
  have HJ:=Lib.hid (fun W h=>(J f (Nat.le_refl _)).unary s x s2 W (by simp only [rank];omega) hr h)
  clear J hf hr
  go_enter Tryz.func110,Tryz.ntmps110
  go_wp2_with fail
  refine (HJ.out _ (HS.out.alloc (ndO zero (.slice none 0 0))).P).mono ?_
  rintro e w5 ⟨aw5,nw5,Sw5,rfl,hk,hS,hP,hT⟩
  have HS5:=Lib.hid ((HS.out.alloc (ndO zero (.slice none 0 0))).callT hk hS hP hT)
  clear hk hS hP hT
  obtain ⟨r0,r1,r2,r3,r4,rf0,rf1,rf2,rf3,rf4,rl⟩:=HS5.out.c5 0 rfl
  go_wp2_with fail
  have HSF:=Lib.hid ((HS5.out.set5 0 rfl (.int .i64 x.kind) (.string ⟨x.text.toArray⟩) (.float .f64 x.num) (.slice aw5 x.kids.length nw5) (.int .i64 x.at')))
  generalize (((((w5.setCell _ _).setCell _ _).setCell _ _).setCell _ _).setCell _ _) = wf at HSF ⊢
  obtain ⟨z0,z1,z2,z3,z4,zf0,zf1,zf2,zf3,zf4,zl⟩:=HSF.out.c5 0 rfl
  refine bodyPost_ret (v:=ndV x (.slice aw5 x.kids.length nw5)) (by simp [results,Tryz.results110,go_sem,z0,z1,z2,z3,z4]) rfl ?_
  exact HSF.out.node (List.mem_cons_self ..) x rfl
 ·rw [if_neg h4] at hr
  have hl3:l ≤ 3:=by omega
  obtain ⟨y,s3,h1,hm,-⟩:=(run_ends E f (.bin (l + 1)) s (by simp [okJ];omega) (by simp only [rank];omega)).one rfl
  simp only [h1] at hr
  have HJ:=Lib.hid (fun W h=>(J f (Nat.le_refl _)).bin (l + 1) ((l:Int) + 1) s y s3 W (by omega) (by omega) (by simp only [rank];omega) h1 h)
  have HJJ:=Lib.hid J
  have HR:=Lib.hid hr
  have HM:Hid (16 * ms E s3 + 1 ≤ f):=by unfold Hid;omega
  have hl4:((l:Int) == 4) = false:=by rw [beq_eq_false_iff_ne];omega
  clear J hf hr h1 hm
  go_enter Tryz.func110,Tryz.ntmps110
  go_upto_region 3 with fail
  go_cut [5] from 11 to 22 (fun s5 wx=>∃ bg,s5 = .slice (some ⟨bg,0,none⟩) (signsOf l).length (signsOf l).length ∧ Hid (SW W wx p v E s [(bg,sgO (signsOf l)),(W.heap.size,ndO zero (.slice none 0 0))] []))
  case first =>
   clear HJ HJJ HR HM hl4
   have h03:l = 0 ∨ l = 1 ∨ l = 2 ∨ l = 3:=by omega
   rcases h03 with rfl | rfl | rfl | rfl
   ·go_wp2_with fail
    go_meet
    exact ⟨_,rfl,(sg_world HS.out _ _ _ _ _ _).drop _ (((((List.Sublist.refl [_,_]).cons _).cons _).cons _).cons _)⟩
   ·go_wp2_with fail
    go_meet
    exact ⟨_,rfl,(sg_world HS.out _ _ _ _ _ _).drop _ ((((((List.Sublist.refl [_]).cons _).cons_cons _).cons _).cons _).cons _)⟩
   ·go_wp2_with fail
    go_meet
    exact ⟨_,rfl,(sg_world HS.out _ _ _ _ _ _).drop _ ((((((List.Sublist.refl [_]).cons _).cons _).cons_cons _).cons _).cons _)⟩
   ·go_wp2_with fail
    go_meet
    exact ⟨_,rfl,(sg_world HS.out _ _ _ _ _ _).drop _ ((((((List.Sublist.refl [_]).cons _).cons _).cons _).cons_cons _).cons _)⟩
  case rest =>
   obtain ⟨bg,rfl,HS1⟩:=hcut
   rename_i wx
   have hl4':=hl4
   clear hl4' HS
   have hg3:(signsOf l).length ≤ 3:=by
    have h03:l = 0 ∨ l = 1 ∨ l = 2 ∨ l = 3:=by omega
    rcases h03 with rfl | rfl | rfl | rfl <;> decide
   have HAny:Hid (∀ s,isAny E l s = (signsOf l).any fun g=>isS E g s):=fun s=>rfl
   generalize signsOf l = gs at *
   go_wp2_with fail
   refine (HJ.out _ HS1.out.P).mono ?_
   rintro e w5 ⟨aw5,nw5,Sw5,rfl,hk,hS,hP,hT⟩
   have HS2:=Lib.hid (HS1.out.callT hk hS hP hT)
   clear hk hS hP hT
   have HS3:=Lib.hid (HS2.out.alloc (ndO y (.slice aw5 y.kids.length nw5)))
   clear HS2 HS1 HJ
   go_wp2_with fail
   have HI0:Hid (BinI W p v E gs l w5.heap.size bg x s2 f f (w5.alloc (ndO y (.slice aw5 y.kids.length nw5)))):=⟨y,s3,aw5,nw5,Sw5,HS3.out,HR.out,HM.out,Nat.le_refl _⟩
   clear HS3 HR HM
   generalize w5.alloc _ = wi at *
   generalize w5.heap.size = bx at *
   go_loopg [] f (fun k wr=>BinI W p v E gs l bx bg x s2 f k wr)
   case atStart=>exact HI0.out
   case round =>
    obtain ⟨y3,s4,a4,n4,S4,hsw,hr,hm,hkf⟩:=hrel
    have HS4:=Lib.hid hsw
    have HR:=Lib.hid hr
    have HM:=Lib.hid hm
    have HK:=Lib.hid hkf
    clear hsw hr hm hkf HI0
    obtain ⟨k',rfl⟩:∃ k',gk = k' + 1:=⟨gk - 1,by have:=HM.out;omega⟩
    have hcs:=HS4.out.P.cells
    have hpl:=HS4.out.P.lt
    have hle:=HS4.out.P.le
    have hlen:=HS4.out.P.len
    have q4:=hcs.c4
    clear hcs
    by_cases hc:s4.code = 0
    ·rw [hc] at q4
     have HTA:=Lib.hid (fun W h=>t_any p v E s4 W h)
     have HSG:Hid (∀ g W,PAt W p v E (sT E s4) → Calls Tryz.prog 107 #[PP p,.string ⟨g.toArray⟩] W fun e w'=>e = .returned (.bool (isS E g s4)) ∧ PAt w' p v E (sT E s4) ∧ Turned [p] W w'):=fun g W h=>sign_fix p v E s4 _ g _ W h rfl rfl
     have hkd:isAny E l s4 = true → (sT E s4).i < E.ts.length ∧ ms E (inc (sT E s4)) < ms E s4:=fun h=>by
      have h:=isAny_kind h
      exact ⟨by rw [sT_i];exact (tk_kind (by rw [h];decide)).2.1,ms_inc (by rw [h];decide)⟩
     have hr:=HR.out
     rw [run,if_neg (by simp [hc])] at hr
     have HR2:=Lib.hid hr
     have hm:=HM.out
     have hkf:=HK.out
     clear hr HR HM HK hc
     have HKD:=Lib.hid hkd
     have HA:=Lib.hid (HAny.out s4)
     have hmt:=ms_sT E s4
     have HKF:Hid (k' ≤ f ∧ 16 * ms E s4 ≤ k'):=by unfold Hid;omega
     clear hkd hm hkf hmt
     generalize isAny E l s4 = ba at *
     generalize sT E s4 = s5 at *
     generalize tk E s4 = t at *
     obtain ⟨wo,rfl⟩:∃ wo:World,wo = wr:=⟨_,rfl⟩
     go_wp2_with fail
     refine (HTA.out _ HS4.out.P).mono ?_
     rintro e w6 ⟨rfl,hP,hT⟩
     have HS5:=Lib.hid (HS4.out.call hP hT)
     clear hP hT HS4
     have HS6:=Lib.hid (HS5.out.alloc (tnO t))
     clear q4 HS5 hpl hle hlen
     go_wp2_with fail
     generalize w6.alloc _ = wj at *
     generalize w6.heap.size = bt at *
     go_loopw [8,9] (fun vb vi wq=>∃ (j:Nat) (b:Bool),j ≤ gs.length ∧ vi = .int .i64 j ∧ vb = .bool b ∧ Hid (b = (gs.take j).any fun g=>isS E g s4) ∧ Hid (SW W wq p v E s5 [(bt,tnO t),(bx,ndO y3 (.slice a4 y3.kids.length n4)),(bg,sgO gs),(W.heap.size,ndO zero (.slice none 0 0))] [⟨y3.kids,.slice a4 y3.kids.length n4,S4⟩])) (fun _ vi _=>gs.length - (intOf vi).toNat)
     case atStart=>exact ⟨0,false,by omega,rfl,rfl,by simp [Hid],HS6.out⟩
     case round =>
      obtain ⟨j,b,hj,rfl,rfl,HB,HSq⟩:=hrel
      clear HS6
      by_cases hlt:j < gs.length
      ·obtain ⟨g,hg⟩:∃ g,gs[j]? = some g:=⟨_,List.getElem?_eq_getElem hlt⟩
       have hq:=sg_cell HSq.out 2 rfl j g hg
       have hbl:=HSq.out.lt (n:=2) rfl
       have HT:=Lib.hid (any_take (q:=fun g=>isS E g s4) hg)
       have HSg:=Lib.hid (HSG.out g)
       have hjI:(j:Int) < gs.length:=by omega
       clear hg
       generalize isS E g s4 = bg2 at *
       cases b with
       | true =>
        go_wp2_with fail
        go_roundw
        case rel=>exact ⟨j + 1,true,by omega,by go_num,rfl,by unfold Hid;rw [HT.out,← HB.out];rfl,HSq⟩
        case measure=>simp [intOf];omega
       | false =>
        go_wp2_with fail
        refine (HSg.out _ HSq.out.P).mono ?_
        rintro e w7 ⟨rfl,hP,hT⟩
        have HSr:=Lib.hid (HSq.out.call hP hT)
        clear hP hT HSq
        go_wp2_with fail
        go_roundw
        case rel=>exact ⟨j + 1,bg2,by omega,by go_num,rfl,by unfold Hid;rw [HT.out,← HB.out];rfl,HSr⟩
        case measure=>simp [intOf];omega
      ·have hjI:¬ (j:Int) < gs.length:=by omega
       have hb2:b = ba:=by
        rw [HB.out,HA.out,List.take_of_length_le (by omega)]
       subst hb2
       have hr:=HR2.out
       have hkd:=HKD.out
       clear HR2 HB HA HSG HKD HTA HAny
       cases b with
       | false =>
        simp only [Bool.false_eq_true,↓reduceIte] at hr
        cases hr
        obtain ⟨r0,r1,r2,r3,r4,rf0,rf1,rf2,rf3,rf4,rl⟩:=HSq.out.c5 1 rfl
        obtain ⟨q0,q1,q2,q3,q4,qf0,qf1,qf2,qf3,qf4,ql⟩:=HSq.out.c5 3 rfl
        go_wp2_with fail
        have HSF:=Lib.hid ((HSq.out.set5 3 rfl (.int .i64 x.kind) (.string ⟨x.text.toArray⟩) (.float .f64 x.num) (.slice a4 x.kids.length n4) (.int .i64 x.at')))
        generalize (((((wr.setCell _ _).setCell _ _).setCell _ _).setCell _ _).setCell _ _) = wf at HSF ⊢
        obtain ⟨z0,z1,z2,z3,z4,zf0,zf1,zf2,zf3,zf4,zl⟩:=HSF.out.c5 3 rfl
        refine bodyPost_ret (v:=ndV x (.slice a4 x.kids.length n4)) (by simp [results,Tryz.results110,go_sem,z0,z1,z2,z3,z4]) rfl ?_
        exact HSF.out.node (List.mem_cons_self ..) x rfl
       | true =>
        obtain ⟨hi,hmi⟩:=hkd rfl
        clear hkd
        simp only [↓reduceIte] at hr
        have hkf:=HKF.out
        obtain ⟨y2,s6,h1,hm6,-⟩:=(run_ends E k' (.bin (l + 1)) (inc s5) (by simp [okJ];omega) (by simp only [rank];omega)).one rfl
        simp only [h1] at hr
        have HR:=Lib.hid hr
        have HJ2:=Lib.hid (fun W h=>(HJJ.out k' hkf.1).bin (l + 1) ((l:Int) + 1) (inc s5) y2 s6 W (by omega) (by omega) (by simp only [rank];omega) h1 h)
        have HKN:Hid (16 * ms E s6 + 1 ≤ k' ∧ k' ≤ f):=by unfold Hid;omega
        clear hr h1 hm6 hmi hkf HKF
        have hcs:=HSq.out.P.cells
        have hpl:=HSq.out.P.lt
        have hle:=HSq.out.P.le
        have hlen:=HSq.out.P.len
        have q1:=hcs.c1
        have f1:=hcs.f1
        clear hcs
        go_wp2_with fail
        refine (HJ2.out _ (HSq.out.inc hi).P).mono ?_
        rintro e w8 ⟨aw8,nw8,Sw8,rfl,hk,hS,hP,hT⟩
        have HS8:=Lib.hid ((HSq.out.inc hi).callT hk hS hP hT)
        clear hk hS hP hT
        clear HJ2 HSq q1 f1 hpl hle hlen
        obtain ⟨t0,t1,t2,t3,tf0,tf1,tf2,tf3,tl⟩:=HS8.out.c4 0 rfl
        obtain ⟨r0,r1,r2,r3,r4,rf0,rf1,rf2,rf3,rf4,rl⟩:=HS8.out.c5 1 rfl
        go_upto_region 16 with fail
        have HSF:=Lib.hid ((SW.buildAt [_,_] ((HS8.out.set5 1 rfl (.int .i64 18) (.string ⟨t.text.toArray⟩) (.float .f64 0) (.slice (some ⟨w8.heap.size + 1,0,none⟩) 2 2) (.int .i64 t.at')).alloc (ndO y2 (.slice aw8 y2.kids.length nw8))).swap [y3,y2] rfl (by simp) (w8.heap.size + 1) (by simp) #[.int .i64 y3.kind,.string ⟨y3.text.toArray⟩,.float .f64 y3.num,.slice a4 y3.kids.length n4,.int .i64 y3.at',.int .i64 y2.kind,.string ⟨y2.text.toArray⟩,.float .f64 y2.num,.slice aw8 y2.kids.length nw8,.int .i64 y2.at'] rfl 2 rfl))
        generalize (World.alloc (World.alloc (((((w8.setCell _ _).setCell _ _).setCell _ _).setCell _ _).setCell _ _) _) _) = wf at HSF ⊢
        obtain ⟨z0,z1,z2,z3,z4,zf0,zf1,zf2,zf3,zf4,zl⟩:=HSF.out.c5 2 rfl
        by_cases hl0:l = 0
        ·subst hl0
         have hr:=HR.out
         rw [if_pos rfl] at hr
         cases hr
         clear HR HJJ HKN HS8
         obtain ⟨wg,rfl⟩:∃ wg:World,wg = wf:=⟨_,rfl⟩
         obtain ⟨HSG,-⟩:Hid _ ∧ True:=⟨HSF,trivial⟩
         clear HSF
         obtain ⟨q0,q1,q2,q3,q4,qf0,qf1,qf2,qf3,qf4,ql⟩:=HSG.out.c5 4 rfl
         go_wp2_with fail
         have HSF:=Lib.hid ((HSG.out.set5 4 rfl (.int .i64 18) (.string ⟨t.text.toArray⟩) (.float .f64 0) (.slice (some ⟨w8.heap.size + 1,0,none⟩) 2 2) (.int .i64 t.at')))
         generalize (((((wg.setCell _ _).setCell _ _).setCell _ _).setCell _ _).setCell _ _) = wf at HSF ⊢
         obtain ⟨z0,z1,z2,z3,z4,zf0,zf1,zf2,zf3,zf4,zl⟩:=HSF.out.c5 4 rfl
         refine bodyPost_ret (v:=.agg #[.int .i64 18,.string ⟨t.text.toArray⟩,.float .f64 0,.slice (some ⟨w8.heap.size + 1,0,none⟩) 2 2,.int .i64 t.at']) (by simp [results,Tryz.results110,go_sem,z0,z1,z2,z3,z4]) rfl ?_
         exact HSF.out.node (List.mem_cons_self ..) (.mk 18 t.text 0 [y3,y2] t.at') rfl
        ·have hlb:((l:Int) == 0) = false:=by rw [beq_eq_false_iff_ne];omega
         have hr:=HR.out
         rw [if_neg hl0] at hr
         have HB:Hid (BinI W p v E gs l bx bg x s2 f k' wf):=⟨.mk 18 t.text 0 [y3,y2] t.at',s6,_,2,_,HSF.out.drop _ (((List.Sublist.refl _).cons _).cons _),hr,HKN.out.1,HKN.out.2⟩
         clear HR hr hl0
         go_wp2_with fail
         go_roundg k'
         case rel=>exact HB.out
         case measure=>omega
    ·have hcb:(s4.code == 0) = false:=beq_eq_false_iff_ne.2 hc
     have hr:=HR.out
     rw [run,if_pos hc] at hr
     cases hr
     clear hc HR HM HK
     obtain ⟨r0,r1,r2,r3,r4,rf0,rf1,rf2,rf3,rf4,rl⟩:=HS4.out.c5 0 rfl
     obtain ⟨q0,q1,q2,q3,q4,qf0,qf1,qf2,qf3,qf4,ql⟩:=HS4.out.c5 2 rfl
     go_wp2_with fail
     have HSF:=Lib.hid ((HS4.out.set5 2 rfl (.int .i64 x.kind) (.string ⟨x.text.toArray⟩) (.float .f64 x.num) (.slice a4 x.kids.length n4) (.int .i64 x.at')))
     generalize (((((wr.setCell _ _).setCell _ _).setCell _ _).setCell _ _).setCell _ _) = wf at HSF ⊢
     obtain ⟨z0,z1,z2,z3,z4,zf0,zf1,zf2,zf3,zf4,zl⟩:=HSF.out.c5 2 rfl
     refine bodyPost_ret (v:=ndV x (.slice a4 x.kids.length n4)) (by simp [results,Tryz.results110,go_sem,z0,z1,z2,z3,z4]) rfl ?_
     exact HSF.out.node (List.mem_cons_self ..) x rfl
end Go.Proofs.YtmfpmandkhiknaaGreatDoor.par
