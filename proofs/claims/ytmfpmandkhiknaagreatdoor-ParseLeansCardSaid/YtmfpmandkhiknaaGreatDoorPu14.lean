/-
  Proved: how the rows of nodes grow in a walk of the program's parser; what binary makes. Conditions: as each theorem says.
  Proved: what binary of the program's parser makes. Conditions: as the theorem says.
  Proved: what row of the program's parser leaves; what the readers owe each other. Conditions: as each theorem says.
  Proved: what row with the other signs, join, sum, term of the program's parser leave. Conditions: as each theorem says.
  Proved: what expr, unary of the program's parser leave. Conditions: as each theorem says.
  Proved: what unary of the program's parser leaves. Conditions: as each theorem says.
-/
import Derived.Test.YtmfpmandkhiknaaGreatDoorPu10
import Derived.Test.YtmfpmandkhiknaaGreatDoorPu13
set_option linter.unusedVariables false
set_option linter.unusedSimpArgs false
namespace Go.Proofs.YtmfpmandkhiknaaGreatDoor.qar
open par
open Go.RowKit
open heap
open lex (Tk TRow TkAt run_store_float add0)
set_option maxRecDepth 100000
attribute [local go_sem] run_store_float field_tok0 field_tok1 field_tok3
theorem SW.build {w W:World} {p:Nat} {v:Value} {E:PE} {s:PS} {L:List (Nat × Obj)} {K':List Tr} (ks:List Tr) (h:SW w W p v E s L (ks ++ K')) (xs:List Nd) (hx:xs.map Nd.kids = ks.map Tr.ks) (hl:xs.length ≤ 100000) :
  SW w (W.alloc (.cells (rowC xs (ks.map Tr.v)).toArray 61 (0,0))) p v E s L (⟨xs,.slice (some ⟨W.heap.size,0,none⟩) xs.length xs.length,W.heap.size :: (ks.map Tr.S).flatten⟩ :: K'):=by
 have h':=h.alloc (.cells (rowC xs (ks.map Tr.v)).toArray 61 (0,0))
 have hb:=Tr.build xs ks hx (fun k hk=>(h.trees k (List.mem_append_left _ hk)).1) hl
 refine ⟨h'.P,h'.T,h.plt,h.one,h.own,fun l hl=>h'.loc l (List.mem_cons_of_mem _ hl),fun k hk => ?_,h.ndl,fun l hl k hk => ?_,.cons (fun k hk x hx' hx2 => ?_) (List.pairwise_append.1 h.ndk).2.1⟩
 ·rcases List.mem_cons.1 hk with rfl | hk
  ·refine ⟨hb,fun b hb => ?_⟩
   rcases List.mem_cons.1 hb with rfl | hb
   ·exact h.T.size
   ·obtain ⟨S,hS,hg⟩:=List.mem_flatten.1 hb
    obtain ⟨k,hk',rfl⟩:=List.mem_map.1 hS
    exact (h.trees k (List.mem_append_left _ hk')).2 b hg
  ·exact h'.trees k (List.mem_append_right _ hk)
 ·rcases List.mem_cons.1 hk with rfl | hk
  ·intro hm
   rcases List.mem_cons.1 hm with hm | hm
   ·have:=blk_lt (h.loc l hl).2;omega
   ·obtain ⟨S,hS,hg⟩:=List.mem_flatten.1 hm
    obtain ⟨k,hk',rfl⟩:=List.mem_map.1 hS
    exact h.dis l hl k (List.mem_append_left _ hk') hg
  ·exact h.dis l hl k (List.mem_append_right _ hk)
 ·rcases List.mem_cons.1 hx' with rfl | hx'
  ·have:=(h.trees k (List.mem_append_right _ hk)).1.lt _ hx2;omega
  ·obtain ⟨S,hS,hg⟩:=List.mem_flatten.1 hx'
   obtain ⟨q,hq,rfl⟩:=List.mem_map.1 hS
   exact (List.pairwise_append.1 h.ndk).2.2 q hq k hk x hg hx2
theorem SW.buildAt {w W:World} {p:Nat} {v:Value} {E:PE} {s:PS} {L:List (Nat × Obj)} {K':List Tr} (ks:List Tr) (h:SW w W p v E s L (ks ++ K')) (xs:List Nd) (hx:xs.map Nd.kids = ks.map Tr.ks) (hl:xs.length ≤ 100000) (b:Nat) (hb:b = W.heap.size) (R:Array Value) (hR:R = (rowC xs (ks.map Tr.v)).toArray) (n:Nat) (hn:n = xs.length) :
  SW w (W.alloc (.cells R 61 (0,0))) p v E s L (⟨xs,.slice (some ⟨b,0,none⟩) n n,W.heap.size :: (ks.map Tr.S).flatten⟩ :: K'):=by
 subst hb hR hn
 exact SW.build ks h xs hx hl
theorem SW.append {w W:World} {p:Nat} {v:Value} {E:PE} {s:PS} {L:List (Nat × Obj)} {K':List Tr} {kr kn:Tr} (h:SW w W p v E s L (kn :: kr :: K')) (x:Nd) (hx:x.kids = kn.ks) (g:Nat) (hg:W.heap[g]? = some (ndO x kn.v)) (hn:kr.ks.length ≤ 1000000) :
  ∃ v2 W2 S2,(Builtin.append_ #[59,59] 59 #[kr.v,.slice (some ⟨g,0,none⟩) 1 1]).run Tryz.prog W = .ok v2 W2 ∧ SW w W2 p v E s L (⟨kr.ks ++ [x],v2,S2⟩ :: K'):=by
 obtain ⟨i0,hi,hz0,hz1,hz2⟩:=info_parts infoN
 obtain ⟨⟨d,hd⟩,hrf⟩:=h.trees kr (by simp)
 obtain ⟨hnk,hnf⟩:=h.trees kn (by simp)
 have hns:=hnk.slice
 obtain ⟨e,he⟩:=hnk
 have hdis:∀ b ∈ kn.S,b ∉ kr.S:=fun b hb=>(List.pairwise_cons.1 h.ndk).1 kr (by simp) b hb
 have hK':=(List.pairwise_cons.1 (List.pairwise_cons.1 h.ndk).2).1
 have hKn:∀ k ∈ K',∀ b ∈ kn.S,b ∉ k.S:=fun k hk b hb=>(List.pairwise_cons.1 h.ndk).1 k (by simp [hk]) b hb
 have hd2:KV 61 W (max d (e + 1) + 1) kr.ks kr.v kr.S:=hd.upto (by omega)
 have he2:KV 61 W (max d (e + 1)) x.kids kn.v kn.S:=by rw [hx];exact he.upto (by omega)
 have hown:∃ l,W.ownsRow 0 61 5 kr.v kr.ks.length l:=by
  obtain ⟨cs,Ss,_,_,h3,_⟩:=hd
  exact ⟨_,h3⟩
 have hownS:∀ b ∈ kr.v.ownBlock.toList,b ∈ kr.S:=by
  obtain ⟨cs,Ss,_,_,_,h4,_⟩:=hd
  intro b hb
  rw [h4];exact List.mem_append_left _ hb
 have hrun:∀ l,W.ownsRow 0 61 5 kr.v kr.ks.length l → ∃ v2 W2,(Builtin.append_ #[59,59] 59 #[kr.v,.slice (some ⟨g,0,none⟩) 1 1]).run Tryz.prog W = .ok v2 W2 ∧ W2.ownsRow 0 61 5 v2 (kr.ks.length + 1) (l ++ ndC x kn.v) ∧ W.grownBy W2 kr.v.ownBlock ∧ (v2.ownBlock = kr.v.ownBlock ∨ v2.ownBlock = some W.heap.size):=fun l hl=>by
  obtain ⟨v2,w2,h1,h2,h3,_,h5⟩:=run_append_own_at (P:=Tryz.prog) (w:=W) 0 59 59 61 i0 _ 5 64 Tryz.underlying59 hi hz0 hz1 hz2 rfl (by decide) kr.v kr.ks.length l hl ⟨g,0,none⟩ 1 1 (ndC x kn.v) rfl (fun j u hu=>by rw [add0,blk_cell hg];simpa [ndC] using hu) (ndC_one _ _ (by obtain ⟨a,c,h⟩:=hns;exact ⟨a,_,c,h⟩)) (by unfold maxLen;omega) (by omega) (Nat.zero_le _)
  exact ⟨v2,w2,h1,h2,h3,h5⟩
 obtain ⟨l,hl⟩:=hown
 obtain ⟨v2,W2,hr,_,hgr,hob⟩:=hrun l hl
 have ht:Turned kr.v.ownBlock.toList W W2:=⟨hgr.os,hgr.tape,hgr.output,hgr.size,fun b hb hn=>hgr.block b hb (fun e=>hn (by simp [← e]))⟩
 obtain ⟨S2,hkv,hS2⟩:=KV.snoc hd2 he2 ht (fun b hb hm=>hdis b hb (hownS b hm)) hob (fun l' hl'=>by
  obtain ⟨v3,W3,hr3,ho3,-,-⟩:=hrun l' hl'
  rw [hr] at hr3
  cases hr3
  exact ho3)
 refine ⟨v2,W2,S2,hr,?_,?_,h.plt,h.one,h.own,fun l hl => ?_,fun k hk => ?_,h.ndl,fun l hl k hk => ?_,.cons (fun k hk b hb => ?_) (List.pairwise_cons.1 (List.pairwise_cons.1 h.ndk).2).2⟩
 ·exact h.P.kept ht (fun hm=>by have:=hrf _ (hownS _ hm);have:=h.plt;omega) (fun b hb hm=>by have:=hrf _ (hownS _ hm);have:=h.own _ hb;omega) (fun hm=>by have:=hrf _ (hownS _ hm);have:=h.one;omega)
 ·exact ⟨ht.os.trans h.T.os,ht.tape.trans h.T.tape,ht.output.trans h.T.output,Nat.le_trans h.T.size ht.size,fun b hb hn=>(ht.block b (Nat.lt_of_lt_of_le hb h.T.size) (fun hm=>by have:=hrf _ (hownS _ hm);omega)).trans (h.T.block b hb hn)⟩
 ·exact ⟨(h.loc l hl).1,ht.kept (h.loc l hl).2 (fun hm=>h.dis l hl kr (by simp) (hownS _ hm))⟩
 ·rcases List.mem_cons.1 hk with rfl | hk
  ·refine ⟨⟨_,hkv⟩,fun b hb => ?_⟩
   rcases hS2 b hb with hb | hb | rfl
   ·exact hrf b hb
   ·exact hnf b hb
   ·exact h.T.size
  ·obtain ⟨h1,h2⟩:=h.trees k (by simp [hk])
   exact ⟨h1.turned ht (fun b hb hm=>hK' k hk b (hownS b hm) hb),h2⟩
 ·rcases List.mem_cons.1 hk with rfl | hk
  ·intro hm
   rcases hS2 _ hm with hb | hb | hb
   ·exact h.dis l hl kr (by simp) hb
   ·exact h.dis l hl kn (by simp) hb
   ·have:=blk_lt (h.loc l hl).2;omega
  ·exact h.dis l hl k (by simp [hk])
 ·intro hm
  rcases hS2 b hb with hb | hb | rfl
  ·exact hK' k hk b hb hm
  ·exact hKn k hk b hb hm
  ·have:=(h.trees k (by simp [hk])).1.lt _ hm;omega
theorem SW.appendS {w W:World} {p:Nat} {v:Value} {E:PE} {s:PS} {L:List (Nat × Obj)} {K':List Tr} {kr kn:Tr} (h:SW w W p v E s L (kn :: kr :: K')) (x:Nd) (hx:x.kids = kn.ks) (g:Nat) (hg:W.heap[g]? = some (ndO x kn.v)) (hn:kr.ks.length ≤ 1000000) :
  ∃ a2 n2 W2 S2,(Builtin.append_ #[59,59] 59 #[kr.v,.slice (some ⟨g,0,none⟩) 1 1]).run Tryz.prog W = .ok (.slice a2 (kr.ks ++ [x]).length n2) W2 ∧ SW w W2 p v E s L (⟨kr.ks ++ [x],.slice a2 (kr.ks ++ [x]).length n2,S2⟩ :: K'):=by
 obtain ⟨v2,W2,S2,h1,h2⟩:=h.append x hx g hg hn
 obtain ⟨a2,n2,hv⟩:=(h2.trees _ (List.mem_cons_self ..)).1.slice
 simp only at hv
 subst hv
 exact ⟨a2,n2,W2,S2,h1,h2⟩
theorem SW.swap {w W:World} {p:Nat} {v:Value} {E:PE} {s:PS} {L:List (Nat × Obj)} {a b:Tr} {K:List Tr} (h:SW w W p v E s L (a :: b :: K)):SW w W p v E s L (b :: a :: K):=by
 have h1:=List.pairwise_cons.1 h.ndk
 have h2:=List.pairwise_cons.1 h1.2
 refine ⟨h.P,h.T,h.plt,h.one,h.own,h.loc,fun k hk=>h.trees k (by simp at hk ⊢;rcases hk with h | h | h <;> simp [h]),h.ndl,fun l hl k hk=>h.dis l hl k (by simp at hk ⊢;rcases hk with h | h | h <;> simp [h]),.cons (fun k hk x hx hx2 => ?_) (.cons (fun k hk=>h1.1 k (by simp [hk])) h2.2)⟩
 rcases List.mem_cons.1 hk with rfl | hk
 ·exact h1.1 b (by simp) x hx2 hx
 ·exact h2.1 k hk x hx hx2
theorem SW.allocAt {w W:World} {p:Nat} {v:Value} {E:PE} {s:PS} {L:List (Nat × Obj)} {K:List Tr} (h:SW w W p v E s L K) (o:Obj) (b:Nat) (hb:b = W.heap.size):SW w (W.alloc o) p v E s ((b,o) :: L) K:=by
 subst hb;exact h.alloc o
theorem SW.rev3 {w W:World} {p:Nat} {v:Value} {E:PE} {s:PS} {L:List (Nat × Obj)} {a b c:Tr} {K:List Tr} (h:SW w W p v E s L (a :: b :: c :: K)):SW w W p v E s L (c :: b :: a :: K):=by
 have h1:=List.pairwise_cons.1 h.ndk
 have h2:=List.pairwise_cons.1 h1.2
 have h3:=List.pairwise_cons.1 h2.2
 have mem:∀ k,k ∈ c :: b :: a :: K → k ∈ a :: b :: c :: K:=fun k hk=>by simp at hk ⊢;rcases hk with h | h | h | h <;> simp [h]
 refine ⟨h.P,h.T,h.plt,h.one,h.own,h.loc,fun k hk=>h.trees k (mem k hk),h.ndl,fun l hl k hk=>h.dis l hl k (mem k hk),.cons (fun k hk x hx hx2 => ?_) (.cons (fun k hk x hx hx2 => ?_) (.cons (fun k hk=>h1.1 k (by simp [hk])) h3.2))⟩
 ·rcases List.mem_cons.1 hk with rfl | hk
  ·exact h2.1 c (by simp) x hx2 hx
  ·rcases List.mem_cons.1 hk with rfl | hk
   ·exact h1.1 c (by simp) x hx2 hx
   ·exact h3.1 k hk x hx hx2
 ·rcases List.mem_cons.1 hk with rfl | hk
  ·exact h1.1 b (by simp) x hx2 hx
  ·exact h2.1 k (by simp [hk]) x hx hx2
theorem SW.addNil {w W:World} {p:Nat} {v:Value} {E:PE} {s:PS} {L:List (Nat × Obj)} {K:List Tr} (h:SW w W p v E s L K):SW w W p v E s L (⟨[],.slice none 0 0,[]⟩ :: K):=
 ⟨h.P,h.T,h.plt,h.one,h.own,h.loc,fun k hk=>by
  rcases List.mem_cons.1 hk with rfl | hk
  ·exact ⟨Tr.nil _,by simp⟩
  ·exact h.trees k hk,h.ndl,fun l hl k hk=>by
  rcases List.mem_cons.1 hk with rfl | hk
  ·simp
  ·exact h.dis l hl k hk,.cons (by simp) h.ndk⟩
theorem bin_world {w W:World} {p:Nat} {v:Value} {E:PE} {s:PS} {L:List (Nat × Obj)} {K:List Tr} (h:SW w W p v E s L K) (a b c d:Obj) :
  SW w ((((W.alloc a).alloc b).alloc c).alloc d) p v E s ((W.heap.size + 1 + 1 + 1,d) :: (W.heap.size + 1 + 1,c) :: (W.heap.size + 1,b) :: (W.heap.size,a) :: L) K:=
 (((h.alloc a).allocAt b _ (by simp)).allocAt c _ (by simp)).allocAt d _ (by simp)
set_option maxHeartbeats 2000000 in
theorem binary_any {w W:World} {p:Nat} {v:Value} {E:PE} {s:PS} {L:List (Nat × Obj)} {K:List Tr} (t:Tn) (x y:Nd) (ax ay:Option Addr) (nx ny:Nat) (Sx Sy:List Nat)
  (h:SW w W p v E s L (⟨x.kids,.slice ax x.kids.length nx,Sx⟩ :: ⟨y.kids,.slice ay y.kids.length ny,Sy⟩ :: K)) :
  Calls Tryz.prog 147 #[tnV t,ndV x (.slice ax x.kids.length nx),ndV y (.slice ay y.kids.length ny)] W fun e w' =>
   ∃ b S2,e = .returned (ndV (.mk 18 t.text 0 [x,y] t.at') (.slice (some ⟨b,0,none⟩) 2 2)) ∧ SW w w' p v E s L (⟨[x,y],.slice (some ⟨b,0,none⟩) 2 2,S2⟩ :: K):=by
 have HS:=Lib.hid (bin_world h (tnO t) (ndO x (.slice ax x.kids.length nx)) (ndO y (.slice ay y.kids.length ny)) (ndO zero (.slice none 0 0)))
 clear h
 go_enter Tryz.func147,Tryz.ntmps147
 go_upto_region 1 with fail
 change Code.wp _ _ _ _ ((((W.alloc (tnO t)).alloc (ndO x (.slice ax x.kids.length nx))).alloc (ndO y (.slice ay y.kids.length ny))).alloc (ndO zero (.slice none 0 0)))
 generalize ((((W.alloc (tnO t)).alloc (ndO x (.slice ax x.kids.length nx))).alloc (ndO y (.slice ay y.kids.length ny))).alloc (ndO zero (.slice none 0 0))) = w1 at *
 generalize W.heap.size = b0 at *
 obtain ⟨t0,t1,t2,t3,tf0,tf1,tf2,tf3,tl⟩:=HS.out.c4 3 rfl
 obtain ⟨x0,x1,x2,x3,x4,xf0,xf1,xf2,xf3,xf4,xl⟩:=HS.out.c5 2 rfl
 obtain ⟨y0,y1,y2,y3,y4,yf0,yf1,yf2,yf3,yf4,yl⟩:=HS.out.c5 1 rfl
 obtain ⟨r0,r1,r2,r3,r4,rf0,rf1,rf2,rf3,rf4,rl⟩:=HS.out.c5 0 rfl
 go_wp2_with fail
 have HSF:=Lib.hid (SW.buildAt [_,_] (HS.out.set5 0 rfl (.int .i64 18) (.string ⟨t.text.toArray⟩) (.float .f64 0) (.slice (some ⟨w1.heap.size,0,none⟩) 2 2) (.int .i64 t.at')) [x,y] rfl (by simp) w1.heap.size (by simp) #[.int .i64 x.kind,.string ⟨x.text.toArray⟩,.float .f64 x.num,.slice ax x.kids.length nx,.int .i64 x.at',.int .i64 y.kind,.string ⟨y.text.toArray⟩,.float .f64 y.num,.slice ay y.kids.length ny,.int .i64 y.at'] rfl 2 rfl)
 generalize (World.alloc (((((w1.setCell _ _).setCell _ _).setCell _ _).setCell _ _).setCell _ _) _) = wf at HSF ⊢
 obtain ⟨z0,z1,z2,z3,z4,zf0,zf1,zf2,zf3,zf4,zl⟩:=HSF.out.c5 0 rfl
 refine bodyPost_ret (v:=.agg #[.int .i64 18,.string ⟨t.text.toArray⟩,.float .f64 0,.slice (some ⟨w1.heap.size,0,none⟩) 2 2,.int .i64 t.at']) (by simp [results,Tryz.results147,go_sem,z0,z1,z2,z3,z4]) rfl ?_
 exact ⟨_,_,rfl,HSF.out.drop _ (((((List.Sublist.refl _).cons _).cons _).cons _).cons _)⟩
def QJ (p:Nat) (v:Value) (E:PE) (f:Nat) (fn:FuncId) (j:Job):Prop:=
 ∀ (s:PS) (x:Nd) (s2:PS) (W:World),16 * ms E s + rank j ≤ f → run E f j s = some ([x],s2) → PAt W p v E s → Calls Tryz.prog fn #[PP p] W (NodeR p v E s.i s2 x W)
structure QJobs (p:Nat) (v:Value) (E:PE) (f:Nat):Prop where
 expr:QJ p v E f 108 (.bin 0)
 join:QJ p v E f 145 (.bin 1)
 sum:QJ p v E f 183 (.bin 2)
 term:QJ p v E f 200 (.bin 3)
 un4:QJ p v E f 219 (.bin 4)
 un:QJ p v E f 219 .unary
 prim:QJ p v E f 234 .primary
 blocked:QJ p v E f 109 .block
 stmt:QJ p v E f 80 .stmt
theorem isAny_pn {E:PE} {s:PS} (h:s.code = 0) (l:Nat):isAny E l s = ((pn E s).kind == 4 && (signsOf l).contains (pn E s).text):=by
 unfold isAny
 have e:∀ g,isS E g s = ((pn E s).kind == 4 && (pn E s).text == g):=fun g=>(pn_isS h g).symm
 simp only [e]
 generalize pn E s = t
 cases (t.kind == 4) with
 | false=>simp
 | true =>
  simp only [Bool.true_and]
  induction signsOf l with
  | nil=>rfl
  | cons a r ih=>rw [List.any_cons,List.contains_cons,ih]
theorem isAny_pn0 {E:PE} {s:PS} (h:s.code = 0):isAny E 0 s = ((pn E s).kind == 4 && [[(61:UInt8),61],[60]].contains (pn E s).text):=isAny_pn h 0
theorem isAny_pn1 {E:PE} {s:PS} (h:s.code = 0):isAny E 1 s = ((pn E s).kind == 4 && [[(38:UInt8)]].contains (pn E s).text):=isAny_pn h 1
theorem isAny_pn2 {E:PE} {s:PS} (h:s.code = 0):isAny E 2 s = ((pn E s).kind == 4 && [[(43:UInt8)],[45]].contains (pn E s).text):=isAny_pn h 2
theorem isAny_pn3 {E:PE} {s:PS} (h:s.code = 0):isAny E 3 s = ((pn E s).kind == 4 && [[(42:UInt8)],[47],[37]].contains (pn E s).text):=isAny_pn h 3
theorem PAt.ms {w:World} {p:Nat} {v:Value} {E:PE} {s t:PS} (h:PAt w p v E t) (hs:s.code = 0) (hi:s.i < t.i):par.ms E t + 1 ≤ par.ms E s:=by
 rw [ms_ok hs,ms_ok h.c0]
 have h1:=h.le
 have h2:=pts_len E
 split at h2 <;> omega
def RowI (W:World) (p:Nat) (v:Value) (E:PE) (i0 l bx br:Nat) (x:Nd) (s2:PS) (f k:Nat) (wr:World):Prop:=
 ∃ (y:Nd) (t:PS) (a:Option Addr) (n:Nat) (S:List Nat),SW W wr p v E t [(bx,ndO y (.slice a y.kids.length n)),(br,ndO zero (.slice none 0 0))] [⟨y.kids,.slice a y.kids.length n,S⟩] ∧
  run E k (.binL l y) t = some ([x],s2) ∧ 16 * ms E t + 1 ≤ k ∧ k ≤ f ∧ i0 < t.i
set_option maxHeartbeats 4000000 in
theorem rowJ {p:Nat} {v:Value} {E:PE} {f:Nat} (J:∀ k,k ≤ f → QJobs p v E k) (s:PS) (x:Nd) (s2:PS) (W:World) (hf:16 * ms E s + rank (.bin 1) ≤ f + 1) (hr:run E (f + 1) (.bin 1) s = some ([x],s2)) (h:PAt W p v E s) :
  Calls Tryz.prog 182 #[PP p,.string ⟨#[38]⟩,.func (.func 183) #[PP p] #[]] W (NodeR p v E s.i s2 x W):=by
 have HS:=Lib.hid (SW.start h)
 have hc0:=h.c0
 clear h
 simp only [rank] at hf
 rw [run,if_neg (by decide)] at hr
 obtain ⟨y,s3,h1,hm,-⟩:=(run_ends E f (.bin (1 + 1)) s (by simp [okJ]) (by simp only [rank];omega)).one rfl
 simp only [h1] at hr
 have HJ:=Lib.hid (fun W h=>(J f (Nat.le_refl _)).sum s y s3 W (by simp only [rank];omega) h1 h)
 have HJJ:=Lib.hid J
 have HR:=Lib.hid hr
 have HM:Hid (s.code = 0 ∧ 16 * ms E s ≤ f):=⟨hc0,by omega⟩
 clear J hf hr h1 hm hc0
 have HS0:=Lib.hid (HS.out.alloc (ndO zero (.slice none 0 0)))
 clear HS
 go_enter Tryz.func182,Tryz.ntmps182
 go_upto_region 1 with fail
 change Code.wp _ _ _ _ (W.alloc (ndO zero (.slice none 0 0)))
 generalize W.alloc (ndO zero (.slice none 0 0)) = w0 at *
 generalize hbr:W.heap.size = br at *
 go_wp2_with fail
 refine (HJ.out _ HS0.out.P).mono ?_
 rintro e w5 hnr
 rcases hnr with ⟨tw5,htw5,hiw5,aw5,nw5,Sw5,rfl,hk,hS,hP,hT⟩ | ⟨hc,rfl,hT⟩
 rotate_left
 ·go_wp2_with fail
  exact ⟨rfl,.thr hc ⟨rfl,hT⟩ (HS0.out).T (run_stk E _ _ _ _ _ HR.out)⟩
 have HS2:=Lib.hid (HS0.out.callT hk hS hP hT)
 have HAw5:=Lib.hid (And.intro htw5 hiw5)
 clear hk hS hP hT htw5 hiw5
 have HS3:=Lib.hid (HS2.out.alloc (ndO y (.slice aw5 y.kids.length nw5)))
 clear HS2 HS0 HJ
 have HI0:Hid (RowI W p v E s.i 1 w5.heap.size br x s2 f f (w5.alloc (ndO y (.slice aw5 y.kids.length nw5)))):=⟨y,tw5,aw5,nw5,Sw5,HS3.out,by
  have:=HR.out
  rw [Al.run HAw5.out.1 _ _ (fun _ h=>by cases h)] at this
  exact this,by
  have:=HS3.out.P.ms HM.out.1 HAw5.out.2
  have:=HM.out.2
  omega,Nat.le_refl _,HAw5.out.2⟩
 clear HS3 HR HM HAw5
 go_wp2_with fail
 generalize w5.alloc _ = wi at *
 generalize w5.heap.size = bx at *
 go_loopg [] f (fun k wr=>RowI W p v E s.i 1 bx br x s2 f k wr)
 case atStart=>exact HI0.out
 case round =>
  obtain ⟨y3,s4,a4,n4,S4,hsw,hr,hm,hkf,hsi⟩:=hrel
  have HS4:=Lib.hid hsw
  have HK:Hid (16 * ms E s4 + 1 ≤ gk ∧ gk ≤ f ∧ s.i < s4.i):=⟨hm,hkf,hsi⟩
  obtain ⟨k',rfl⟩:∃ k',gk = k' + 1:=⟨gk - 1,by omega⟩
  have hc:=hsw.P.c0
  rw [run,if_neg (by simp [hc])] at hr
  have hpn:=isAny_pn1 (E:=E) hc
  have HKD:Hid (isAny E 1 s4 = true → (pn E s4).kind ≠ 0 ∧ sT E s4 = s4 ∧ tk E s4 = pn E s4 ∧ ms E (inc s4) < ms E s4):=fun h=>by
   have hk:=isAny_at h
   have h2:=(tk_kind (by rw [hk];decide)).2.2
   have h3:=pn_tk (E:=E) hc (by rw [hk];decide)
   refine ⟨by rw [h3.1,hk];decide,h2,h3.1.symm,?_⟩
   have:=ms_inc (E:=E) (s:=s4) (by rw [hk];decide)
   rw [h2] at this
   exact this
  have HR:=Lib.hid hr
  clear hr hsw hm hkf hsi hc HI0
  have HA:=Lib.hid (fun W hW=>among_any p v E s4 [38] [[38]] _ W hW (by decide) (by decide) hpn.symm)
  clear hpn
  generalize isAny E 1 s4 = ba at *
  go_wp2_with fail
  refine (HA.out _ HS4.out.P).mono ?_;rintro e w6 ⟨rfl,hb6⟩
  have HS6:=Lib.hid (HS4.out.call (HS4.out.P.below hb6) (Turned.of_below hb6))
  clear hb6 HA HS4
  cases ba with
  | false =>
   have hr:=HR.out
   rw [if_neg (by decide)] at hr
   cases hr
   clear HR HKD HJJ
   obtain ⟨x0,x1,x2,x3,x4,xf0,xf1,xf2,xf3,xf4,xl⟩:=HS6.out.c5 0 rfl
   obtain ⟨r0,r1,r2,r3,r4,rf0,rf1,rf2,rf3,rf4,rl⟩:=HS6.out.c5 1 rfl
   go_wp2_with fail
   have HSF:=Lib.hid ((HS6.out.set5 1 rfl (.int .i64 x.kind) (.string ⟨x.text.toArray⟩) (.float .f64 x.num) (.slice a4 x.kids.length n4) (.int .i64 x.at')))
   generalize (((((w6.setCell _ _).setCell _ _).setCell _ _).setCell _ _).setCell _ _) = wf at HSF ⊢
   obtain ⟨z0,z1,z2,z3,z4,zf0,zf1,zf2,zf3,zf4,zl⟩:=HSF.out.c5 1 rfl
   refine bodyPost_ret (v:=ndV x (.slice a4 x.kids.length n4)) (by simp [results,Tryz.results182,go_sem,z0,z1,z2,z3,z4]) rfl ?_
   exact .ok (.inr rfl) HK.out.2.2 (HSF.out.node (List.mem_cons_self ..) x rfl)
  | true =>
   obtain ⟨hk0,hsT,htk,hmi⟩:=HKD.out rfl
   have hr:=HR.out
   rw [if_pos rfl,htk,hsT] at hr
   obtain ⟨z,s5,h1,-,-⟩:=(run_ends E k' (.bin (1 + 1)) (inc s4) (by simp [okJ]) (by simp only [rank];have:=HK.out.1;omega)).one rfl
   simp only [h1] at hr
   rw [if_neg (by decide)] at hr
   have HJ2:=Lib.hid (fun W h=>(HJJ.out k' (by have:=HK.out.2.1;omega)).sum (inc s4) z s5 W (by simp only [rank];have:=HK.out.1;omega) h1 h)
   have HNX:=Lib.hid (fun W hW=>next_any p v E s4 W hW hk0)
   have HR2:=Lib.hid hr
   have HM2:Hid (ms E (inc s4) < ms E s4 ∧ s4.code = 0):=⟨hmi,HS6.out.P.c0⟩
   clear hr HR HKD hk0 hsT htk hmi h1 HJJ
   generalize pn E s4 = t at *
   go_wp2_with fail
   refine (HNX.out _ HS6.out.P).mono ?_;rintro e w7 ⟨rfl,hP,hT⟩
   have HS7:=Lib.hid ((HS6.out.call hP hT).alloc (tnO t))
   clear hP hT HS6 HNX
   go_upto_region 4 with fail
   change Code.wp _ _ _ _ (w7.alloc (tnO t))
   generalize w7.alloc (tnO t) = w8 at *
   generalize w7.heap.size = bt at *
   obtain ⟨o0,o1,o2,o3,of0,of1,of2,of3,ol⟩:=HS7.out.c4 0 rfl
   obtain ⟨x0,x1,x2,x3,x4,xf0,xf1,xf2,xf3,xf4,xl⟩:=HS7.out.c5 1 rfl
   go_wp2_with fail
   go_region_law
    (first
     | (go_simp
        go_at_call 147
        refine (binary_any t y3 z _ _ _ _ _ _ HS10.out.swap).mono ?_
        rintro e w11 ⟨b11,S11,rfl,hsw⟩
        have HS11:=Lib.hid hsw
        clear hsw
        obtain ⟨r0,r1,r2,r3,r4,rf0,rf1,rf2,rf3,rf4,rl⟩:=HS11.out.c5 1 rfl)
     | (go_simp
        go_at_call 183
        refine (HJ2.out _ (by first | exact HS7.out.P | exact HS7.out.drew.P)).mono ?_
        rintro e w10 hnr
        rcases hnr with ⟨t10,ht,hi,a10,n10,S10,rfl,hk,hS,hP,hT⟩ | ⟨hc,rfl,hT⟩
        rotate_left
        · go_wp2_with fail
          exact ⟨rfl,.thr hc ⟨rfl,hT⟩ HS7.out.drew.T (run_stk E _ _ _ _ _ HR2.out)⟩
        have HS10:=Lib.hid (HS7.out.drew.callT hk hS hP hT)
        have HA10:=Lib.hid (And.intro ht hi)
        clear hk hS hP hT ht hi
        obtain ⟨o0,o1,o2,o3,of0,of1,of2,of3,ol⟩:=HS10.out.c4 0 rfl
        obtain ⟨x0,x1,x2,x3,x4,xf0,xf1,xf2,xf3,xf4,xl⟩:=HS10.out.c5 1 rfl))
   all_goals
    have HSd:=Lib.hid ((HS11.out.set5 1 rfl (.int .i64 (Nd.mk 18 t.text 0 [y3,z] t.at').kind) (.string ⟨(Nd.mk 18 t.text 0 [y3,z] t.at').text.toArray⟩) (.float .f64 (Nd.mk 18 t.text 0 [y3,z] t.at').num) (.slice (some ⟨b11,0,none⟩) 2 2) (.int .i64 (Nd.mk 18 t.text 0 [y3,z] t.at').at')).drop _ ((List.Sublist.refl _).cons _))
    generalize (((((w11.setCell _ _).setCell _ _).setCell _ _).setCell _ _).setCell _ _) = w12 at HSd ⊢
    have HB:Hid (RowI W p v E s.i 1 bx br x s2 f k' w12):=⟨.mk 18 t.text 0 [y3,z] t.at',t10,some ⟨b11,0,none⟩,2,S11,HSd.out,by
     have:=HR2.out
     rw [Al.run HA10.out.1 _ _ (fun _ h=>by cases h)] at this
     exact this,by
     have:=HSd.out.P.ms (s:=inc s4) HM2.out.2 HA10.out.2
     have:=HM2.out.1
     have:=HK.out.1
     omega,by
     have:=HK.out.2.1
     omega,by
     have h1:s4.i + 1 < t10.i:=HA10.out.2
     have:=HK.out.2.2
     omega⟩
    clear HSd HS11 HS10 HA10 HS7 HJ2 HR2 HM2 HK
    go_wp2_with fail
    go_roundg k'
    case rel=>exact HB.out
    case measure=>omega
set_option maxHeartbeats 4000000 in
theorem rowS {p:Nat} {v:Value} {E:PE} {f:Nat} (J:∀ k,k ≤ f → QJobs p v E k) (s:PS) (x:Nd) (s2:PS) (W:World) (hf:16 * ms E s + rank (.bin 2) ≤ f + 1) (hr:run E (f + 1) (.bin 2) s = some ([x],s2)) (h:PAt W p v E s) :
  Calls Tryz.prog 182 #[PP p,.string ⟨#[43,32,45]⟩,.func (.func 200) #[PP p] #[]] W (NodeR p v E s.i s2 x W):=by
 have HS:=Lib.hid (SW.start h)
 have hc0:=h.c0
 clear h
 simp only [rank] at hf
 rw [run,if_neg (by decide)] at hr
 obtain ⟨y,s3,h1,hm,-⟩:=(run_ends E f (.bin (2 + 1)) s (by simp [okJ]) (by simp only [rank];omega)).one rfl
 simp only [h1] at hr
 have HJ:=Lib.hid (fun W h=>(J f (Nat.le_refl _)).term s y s3 W (by simp only [rank];omega) h1 h)
 have HJJ:=Lib.hid J
 have HR:=Lib.hid hr
 have HM:Hid (s.code = 0 ∧ 16 * ms E s ≤ f):=⟨hc0,by omega⟩
 clear J hf hr h1 hm hc0
 have HS0:=Lib.hid (HS.out.alloc (ndO zero (.slice none 0 0)))
 clear HS
 go_enter Tryz.func182,Tryz.ntmps182
 go_upto_region 1 with fail
 change Code.wp _ _ _ _ (W.alloc (ndO zero (.slice none 0 0)))
 generalize W.alloc (ndO zero (.slice none 0 0)) = w0 at *
 generalize hbr:W.heap.size = br at *
 go_wp2_with fail
 refine (HJ.out _ HS0.out.P).mono ?_
 rintro e w5 hnr
 rcases hnr with ⟨tw5,htw5,hiw5,aw5,nw5,Sw5,rfl,hk,hS,hP,hT⟩ | ⟨hc,rfl,hT⟩
 rotate_left
 ·go_wp2_with fail
  exact ⟨rfl,.thr hc ⟨rfl,hT⟩ (HS0.out).T (run_stk E _ _ _ _ _ HR.out)⟩
 have HS2:=Lib.hid (HS0.out.callT hk hS hP hT)
 have HAw5:=Lib.hid (And.intro htw5 hiw5)
 clear hk hS hP hT htw5 hiw5
 have HS3:=Lib.hid (HS2.out.alloc (ndO y (.slice aw5 y.kids.length nw5)))
 clear HS2 HS0 HJ
 have HI0:Hid (RowI W p v E s.i 2 w5.heap.size br x s2 f f (w5.alloc (ndO y (.slice aw5 y.kids.length nw5)))):=⟨y,tw5,aw5,nw5,Sw5,HS3.out,by
  have:=HR.out
  rw [Al.run HAw5.out.1 _ _ (fun _ h=>by cases h)] at this
  exact this,by
  have:=HS3.out.P.ms HM.out.1 HAw5.out.2
  have:=HM.out.2
  omega,Nat.le_refl _,HAw5.out.2⟩
 clear HS3 HR HM HAw5
 go_wp2_with fail
 generalize w5.alloc _ = wi at *
 generalize w5.heap.size = bx at *
 go_loopg [] f (fun k wr=>RowI W p v E s.i 2 bx br x s2 f k wr)
 case atStart=>exact HI0.out
 case round =>
  obtain ⟨y3,s4,a4,n4,S4,hsw,hr,hm,hkf,hsi⟩:=hrel
  have HS4:=Lib.hid hsw
  have HK:Hid (16 * ms E s4 + 1 ≤ gk ∧ gk ≤ f ∧ s.i < s4.i):=⟨hm,hkf,hsi⟩
  obtain ⟨k',rfl⟩:∃ k',gk = k' + 1:=⟨gk - 1,by omega⟩
  have hc:=hsw.P.c0
  rw [run,if_neg (by simp [hc])] at hr
  have hpn:=isAny_pn2 (E:=E) hc
  have HKD:Hid (isAny E 2 s4 = true → (pn E s4).kind ≠ 0 ∧ sT E s4 = s4 ∧ tk E s4 = pn E s4 ∧ ms E (inc s4) < ms E s4):=fun h=>by
   have hk:=isAny_at h
   have h2:=(tk_kind (by rw [hk];decide)).2.2
   have h3:=pn_tk (E:=E) hc (by rw [hk];decide)
   refine ⟨by rw [h3.1,hk];decide,h2,h3.1.symm,?_⟩
   have:=ms_inc (E:=E) (s:=s4) (by rw [hk];decide)
   rw [h2] at this
   exact this
  have HR:=Lib.hid hr
  clear hr hsw hm hkf hsi hc HI0
  have HA:=Lib.hid (fun W hW=>among_any p v E s4 [43,32,45] [[43],[45]] _ W hW (by decide) (by decide) hpn.symm)
  clear hpn
  generalize isAny E 2 s4 = ba at *
  go_wp2_with fail
  refine (HA.out _ HS4.out.P).mono ?_;rintro e w6 ⟨rfl,hb6⟩
  have HS6:=Lib.hid (HS4.out.call (HS4.out.P.below hb6) (Turned.of_below hb6))
  clear hb6 HA HS4
  cases ba with
  | false =>
   have hr:=HR.out
   rw [if_neg (by decide)] at hr
   cases hr
   clear HR HKD HJJ
   obtain ⟨x0,x1,x2,x3,x4,xf0,xf1,xf2,xf3,xf4,xl⟩:=HS6.out.c5 0 rfl
   obtain ⟨r0,r1,r2,r3,r4,rf0,rf1,rf2,rf3,rf4,rl⟩:=HS6.out.c5 1 rfl
   go_wp2_with fail
   have HSF:=Lib.hid ((HS6.out.set5 1 rfl (.int .i64 x.kind) (.string ⟨x.text.toArray⟩) (.float .f64 x.num) (.slice a4 x.kids.length n4) (.int .i64 x.at')))
   generalize (((((w6.setCell _ _).setCell _ _).setCell _ _).setCell _ _).setCell _ _) = wf at HSF ⊢
   obtain ⟨z0,z1,z2,z3,z4,zf0,zf1,zf2,zf3,zf4,zl⟩:=HSF.out.c5 1 rfl
   refine bodyPost_ret (v:=ndV x (.slice a4 x.kids.length n4)) (by simp [results,Tryz.results182,go_sem,z0,z1,z2,z3,z4]) rfl ?_
   exact .ok (.inr rfl) HK.out.2.2 (HSF.out.node (List.mem_cons_self ..) x rfl)
  | true =>
   obtain ⟨hk0,hsT,htk,hmi⟩:=HKD.out rfl
   have hr:=HR.out
   rw [if_pos rfl,htk,hsT] at hr
   obtain ⟨z,s5,h1,-,-⟩:=(run_ends E k' (.bin (2 + 1)) (inc s4) (by simp [okJ]) (by simp only [rank];have:=HK.out.1;omega)).one rfl
   simp only [h1] at hr
   rw [if_neg (by decide)] at hr
   have HJ2:=Lib.hid (fun W h=>(HJJ.out k' (by have:=HK.out.2.1;omega)).term (inc s4) z s5 W (by simp only [rank];have:=HK.out.1;omega) h1 h)
   have HNX:=Lib.hid (fun W hW=>next_any p v E s4 W hW hk0)
   have HR2:=Lib.hid hr
   have HM2:Hid (ms E (inc s4) < ms E s4 ∧ s4.code = 0):=⟨hmi,HS6.out.P.c0⟩
   clear hr HR HKD hk0 hsT htk hmi h1 HJJ
   generalize pn E s4 = t at *
   go_wp2_with fail
   refine (HNX.out _ HS6.out.P).mono ?_;rintro e w7 ⟨rfl,hP,hT⟩
   have HS7:=Lib.hid ((HS6.out.call hP hT).alloc (tnO t))
   clear hP hT HS6 HNX
   go_upto_region 4 with fail
   change Code.wp _ _ _ _ (w7.alloc (tnO t))
   generalize w7.alloc (tnO t) = w8 at *
   generalize w7.heap.size = bt at *
   obtain ⟨o0,o1,o2,o3,of0,of1,of2,of3,ol⟩:=HS7.out.c4 0 rfl
   obtain ⟨x0,x1,x2,x3,x4,xf0,xf1,xf2,xf3,xf4,xl⟩:=HS7.out.c5 1 rfl
   go_wp2_with fail
   go_region_law
    (first
     | (go_simp
        go_at_call 147
        refine (binary_any t y3 z _ _ _ _ _ _ HS10.out.swap).mono ?_
        rintro e w11 ⟨b11,S11,rfl,hsw⟩
        have HS11:=Lib.hid hsw
        clear hsw
        obtain ⟨r0,r1,r2,r3,r4,rf0,rf1,rf2,rf3,rf4,rl⟩:=HS11.out.c5 1 rfl)
     | (go_simp
        go_at_call 200
        refine (HJ2.out _ (by first | exact HS7.out.P | exact HS7.out.drew.P)).mono ?_
        rintro e w10 hnr
        rcases hnr with ⟨t10,ht,hi,a10,n10,S10,rfl,hk,hS,hP,hT⟩ | ⟨hc,rfl,hT⟩
        rotate_left
        · go_wp2_with fail
          exact ⟨rfl,.thr hc ⟨rfl,hT⟩ HS7.out.drew.T (run_stk E _ _ _ _ _ HR2.out)⟩
        have HS10:=Lib.hid (HS7.out.drew.callT hk hS hP hT)
        have HA10:=Lib.hid (And.intro ht hi)
        clear hk hS hP hT ht hi
        obtain ⟨o0,o1,o2,o3,of0,of1,of2,of3,ol⟩:=HS10.out.c4 0 rfl
        obtain ⟨x0,x1,x2,x3,x4,xf0,xf1,xf2,xf3,xf4,xl⟩:=HS10.out.c5 1 rfl))
   all_goals
    have HSd:=Lib.hid ((HS11.out.set5 1 rfl (.int .i64 (Nd.mk 18 t.text 0 [y3,z] t.at').kind) (.string ⟨(Nd.mk 18 t.text 0 [y3,z] t.at').text.toArray⟩) (.float .f64 (Nd.mk 18 t.text 0 [y3,z] t.at').num) (.slice (some ⟨b11,0,none⟩) 2 2) (.int .i64 (Nd.mk 18 t.text 0 [y3,z] t.at').at')).drop _ ((List.Sublist.refl _).cons _))
    generalize (((((w11.setCell _ _).setCell _ _).setCell _ _).setCell _ _).setCell _ _) = w12 at HSd ⊢
    have HB:Hid (RowI W p v E s.i 2 bx br x s2 f k' w12):=⟨.mk 18 t.text 0 [y3,z] t.at',t10,some ⟨b11,0,none⟩,2,S11,HSd.out,by
     have:=HR2.out
     rw [Al.run HA10.out.1 _ _ (fun _ h=>by cases h)] at this
     exact this,by
     have:=HSd.out.P.ms (s:=inc s4) HM2.out.2 HA10.out.2
     have:=HM2.out.1
     have:=HK.out.1
     omega,by
     have:=HK.out.2.1
     omega,by
     have h1:s4.i + 1 < t10.i:=HA10.out.2
     have:=HK.out.2.2
     omega⟩
    clear HSd HS11 HS10 HA10 HS7 HJ2 HR2 HM2 HK
    go_wp2_with fail
    go_roundg k'
    case rel=>exact HB.out
    case measure=>omega
set_option maxHeartbeats 4000000 in
theorem rowT {p:Nat} {v:Value} {E:PE} {f:Nat} (J:∀ k,k ≤ f → QJobs p v E k) (s:PS) (x:Nd) (s2:PS) (W:World) (hf:16 * ms E s + rank (.bin 3) ≤ f + 1) (hr:run E (f + 1) (.bin 3) s = some ([x],s2)) (h:PAt W p v E s) :
  Calls Tryz.prog 182 #[PP p,.string ⟨#[42,32,47,32,37]⟩,.func (.func 219) #[PP p] #[]] W (NodeR p v E s.i s2 x W):=by
 have HS:=Lib.hid (SW.start h)
 have hc0:=h.c0
 clear h
 simp only [rank] at hf
 rw [run,if_neg (by decide)] at hr
 obtain ⟨y,s3,h1,hm,-⟩:=(run_ends E f (.bin (3 + 1)) s (by simp [okJ]) (by simp only [rank];omega)).one rfl
 simp only [h1] at hr
 have HJ:=Lib.hid (fun W h=>(J f (Nat.le_refl _)).un4 s y s3 W (by simp only [rank];omega) h1 h)
 have HJJ:=Lib.hid J
 have HR:=Lib.hid hr
 have HM:Hid (s.code = 0 ∧ 16 * ms E s ≤ f):=⟨hc0,by omega⟩
 clear J hf hr h1 hm hc0
 have HS0:=Lib.hid (HS.out.alloc (ndO zero (.slice none 0 0)))
 clear HS
 go_enter Tryz.func182,Tryz.ntmps182
 go_upto_region 1 with fail
 change Code.wp _ _ _ _ (W.alloc (ndO zero (.slice none 0 0)))
 generalize W.alloc (ndO zero (.slice none 0 0)) = w0 at *
 generalize hbr:W.heap.size = br at *
 go_wp2_with fail
 refine (HJ.out _ HS0.out.P).mono ?_
 rintro e w5 hnr
 rcases hnr with ⟨tw5,htw5,hiw5,aw5,nw5,Sw5,rfl,hk,hS,hP,hT⟩ | ⟨hc,rfl,hT⟩
 rotate_left
 ·go_wp2_with fail
  exact ⟨rfl,.thr hc ⟨rfl,hT⟩ (HS0.out).T (run_stk E _ _ _ _ _ HR.out)⟩
 have HS2:=Lib.hid (HS0.out.callT hk hS hP hT)
 have HAw5:=Lib.hid (And.intro htw5 hiw5)
 clear hk hS hP hT htw5 hiw5
 have HS3:=Lib.hid (HS2.out.alloc (ndO y (.slice aw5 y.kids.length nw5)))
 clear HS2 HS0 HJ
 have HI0:Hid (RowI W p v E s.i 3 w5.heap.size br x s2 f f (w5.alloc (ndO y (.slice aw5 y.kids.length nw5)))):=⟨y,tw5,aw5,nw5,Sw5,HS3.out,by
  have:=HR.out
  rw [Al.run HAw5.out.1 _ _ (fun _ h=>by cases h)] at this
  exact this,by
  have:=HS3.out.P.ms HM.out.1 HAw5.out.2
  have:=HM.out.2
  omega,Nat.le_refl _,HAw5.out.2⟩
 clear HS3 HR HM HAw5
 go_wp2_with fail
 generalize w5.alloc _ = wi at *
 generalize w5.heap.size = bx at *
 go_loopg [] f (fun k wr=>RowI W p v E s.i 3 bx br x s2 f k wr)
 case atStart=>exact HI0.out
 case round =>
  obtain ⟨y3,s4,a4,n4,S4,hsw,hr,hm,hkf,hsi⟩:=hrel
  have HS4:=Lib.hid hsw
  have HK:Hid (16 * ms E s4 + 1 ≤ gk ∧ gk ≤ f ∧ s.i < s4.i):=⟨hm,hkf,hsi⟩
  obtain ⟨k',rfl⟩:∃ k',gk = k' + 1:=⟨gk - 1,by omega⟩
  have hc:=hsw.P.c0
  rw [run,if_neg (by simp [hc])] at hr
  have hpn:=isAny_pn3 (E:=E) hc
  have HKD:Hid (isAny E 3 s4 = true → (pn E s4).kind ≠ 0 ∧ sT E s4 = s4 ∧ tk E s4 = pn E s4 ∧ ms E (inc s4) < ms E s4):=fun h=>by
   have hk:=isAny_at h
   have h2:=(tk_kind (by rw [hk];decide)).2.2
   have h3:=pn_tk (E:=E) hc (by rw [hk];decide)
   refine ⟨by rw [h3.1,hk];decide,h2,h3.1.symm,?_⟩
   have:=ms_inc (E:=E) (s:=s4) (by rw [hk];decide)
   rw [h2] at this
   exact this
  have HR:=Lib.hid hr
  clear hr hsw hm hkf hsi hc HI0
  have HA:=Lib.hid (fun W hW=>among_any p v E s4 [42,32,47,32,37] [[42],[47],[37]] _ W hW (by decide) (by decide) hpn.symm)
  clear hpn
  generalize isAny E 3 s4 = ba at *
  go_wp2_with fail
  refine (HA.out _ HS4.out.P).mono ?_;rintro e w6 ⟨rfl,hb6⟩
  have HS6:=Lib.hid (HS4.out.call (HS4.out.P.below hb6) (Turned.of_below hb6))
  clear hb6 HA HS4
  cases ba with
  | false =>
   have hr:=HR.out
   rw [if_neg (by decide)] at hr
   cases hr
   clear HR HKD HJJ
   obtain ⟨x0,x1,x2,x3,x4,xf0,xf1,xf2,xf3,xf4,xl⟩:=HS6.out.c5 0 rfl
   obtain ⟨r0,r1,r2,r3,r4,rf0,rf1,rf2,rf3,rf4,rl⟩:=HS6.out.c5 1 rfl
   go_wp2_with fail
   have HSF:=Lib.hid ((HS6.out.set5 1 rfl (.int .i64 x.kind) (.string ⟨x.text.toArray⟩) (.float .f64 x.num) (.slice a4 x.kids.length n4) (.int .i64 x.at')))
   generalize (((((w6.setCell _ _).setCell _ _).setCell _ _).setCell _ _).setCell _ _) = wf at HSF ⊢
   obtain ⟨z0,z1,z2,z3,z4,zf0,zf1,zf2,zf3,zf4,zl⟩:=HSF.out.c5 1 rfl
   refine bodyPost_ret (v:=ndV x (.slice a4 x.kids.length n4)) (by simp [results,Tryz.results182,go_sem,z0,z1,z2,z3,z4]) rfl ?_
   exact .ok (.inr rfl) HK.out.2.2 (HSF.out.node (List.mem_cons_self ..) x rfl)
  | true =>
   obtain ⟨hk0,hsT,htk,hmi⟩:=HKD.out rfl
   have hr:=HR.out
   rw [if_pos rfl,htk,hsT] at hr
   obtain ⟨z,s5,h1,-,-⟩:=(run_ends E k' (.bin (3 + 1)) (inc s4) (by simp [okJ]) (by simp only [rank];have:=HK.out.1;omega)).one rfl
   simp only [h1] at hr
   rw [if_neg (by decide)] at hr
   have HJ2:=Lib.hid (fun W h=>(HJJ.out k' (by have:=HK.out.2.1;omega)).un4 (inc s4) z s5 W (by simp only [rank];have:=HK.out.1;omega) h1 h)
   have HNX:=Lib.hid (fun W hW=>next_any p v E s4 W hW hk0)
   have HR2:=Lib.hid hr
   have HM2:Hid (ms E (inc s4) < ms E s4 ∧ s4.code = 0):=⟨hmi,HS6.out.P.c0⟩
   clear hr HR HKD hk0 hsT htk hmi h1 HJJ
   generalize pn E s4 = t at *
   go_wp2_with fail
   refine (HNX.out _ HS6.out.P).mono ?_;rintro e w7 ⟨rfl,hP,hT⟩
   have HS7:=Lib.hid ((HS6.out.call hP hT).alloc (tnO t))
   clear hP hT HS6 HNX
   go_upto_region 4 with fail
   change Code.wp _ _ _ _ (w7.alloc (tnO t))
   generalize w7.alloc (tnO t) = w8 at *
   generalize w7.heap.size = bt at *
   obtain ⟨o0,o1,o2,o3,of0,of1,of2,of3,ol⟩:=HS7.out.c4 0 rfl
   obtain ⟨x0,x1,x2,x3,x4,xf0,xf1,xf2,xf3,xf4,xl⟩:=HS7.out.c5 1 rfl
   go_wp2_with fail
   go_region_law
    (first
     | (go_simp
        go_at_call 147
        refine (binary_any t y3 z _ _ _ _ _ _ HS10.out.swap).mono ?_
        rintro e w11 ⟨b11,S11,rfl,hsw⟩
        have HS11:=Lib.hid hsw
        clear hsw
        obtain ⟨r0,r1,r2,r3,r4,rf0,rf1,rf2,rf3,rf4,rl⟩:=HS11.out.c5 1 rfl)
     | (go_simp
        go_at_call 219
        refine (HJ2.out _ (by first | exact HS7.out.P | exact HS7.out.drew.P)).mono ?_
        rintro e w10 hnr
        rcases hnr with ⟨t10,ht,hi,a10,n10,S10,rfl,hk,hS,hP,hT⟩ | ⟨hc,rfl,hT⟩
        rotate_left
        · go_wp2_with fail
          exact ⟨rfl,.thr hc ⟨rfl,hT⟩ HS7.out.drew.T (run_stk E _ _ _ _ _ HR2.out)⟩
        have HS10:=Lib.hid (HS7.out.drew.callT hk hS hP hT)
        have HA10:=Lib.hid (And.intro ht hi)
        clear hk hS hP hT ht hi
        obtain ⟨o0,o1,o2,o3,of0,of1,of2,of3,ol⟩:=HS10.out.c4 0 rfl
        obtain ⟨x0,x1,x2,x3,x4,xf0,xf1,xf2,xf3,xf4,xl⟩:=HS10.out.c5 1 rfl))
   all_goals
    have HSd:=Lib.hid ((HS11.out.set5 1 rfl (.int .i64 (Nd.mk 18 t.text 0 [y3,z] t.at').kind) (.string ⟨(Nd.mk 18 t.text 0 [y3,z] t.at').text.toArray⟩) (.float .f64 (Nd.mk 18 t.text 0 [y3,z] t.at').num) (.slice (some ⟨b11,0,none⟩) 2 2) (.int .i64 (Nd.mk 18 t.text 0 [y3,z] t.at').at')).drop _ ((List.Sublist.refl _).cons _))
    generalize (((((w11.setCell _ _).setCell _ _).setCell _ _).setCell _ _).setCell _ _) = w12 at HSd ⊢
    have HB:Hid (RowI W p v E s.i 3 bx br x s2 f k' w12):=⟨.mk 18 t.text 0 [y3,z] t.at',t10,some ⟨b11,0,none⟩,2,S11,HSd.out,by
     have:=HR2.out
     rw [Al.run HA10.out.1 _ _ (fun _ h=>by cases h)] at this
     exact this,by
     have:=HSd.out.P.ms (s:=inc s4) HM2.out.2 HA10.out.2
     have:=HM2.out.1
     have:=HK.out.1
     omega,by
     have:=HK.out.2.1
     omega,by
     have h1:s4.i + 1 < t10.i:=HA10.out.2
     have:=HK.out.2.2
     omega⟩
    clear HSd HS11 HS10 HA10 HS7 HJ2 HR2 HM2 HK
    go_wp2_with fail
    go_roundg k'
    case rel=>exact HB.out
    case measure=>omega
set_option maxHeartbeats 1000000 in
theorem join_any (p:Nat) (v:Value) (E:PE) (i0:Nat) (s s2:PS) (y:Nd) (w:World) (h:PAt w p v E s)
  (H:∀ W,PAt W p v E s → Calls Tryz.prog 182 #[PP p,.string ⟨#[38]⟩,.func (.func 183) #[PP p] #[]] W (NodeR p v E i0 s2 y W)) :
  Calls Tryz.prog 145 #[PP p] w (NodeR p v E i0 s2 y w):=by
 have HS:=Lib.hid ((SW.start h).alloc (ndO zero (.slice none 0 0)))
 have HJ:=Lib.hid (fun W=>H W)
 clear H h
 go_enter Tryz.func145,Tryz.ntmps145
 go_wp2_with fail
 refine (HJ.out _ HS.out.P).mono ?_
 rintro e w2 hnr
 rcases hnr with ⟨tw2,htw2,hiw2,aw2,nw2,Sw2,rfl,hk,hS,hP,hT⟩ | ⟨hc,rfl,hT⟩
 rotate_left
 ·go_wp2_with fail
  exact ⟨rfl,.thr hc ⟨rfl,hT⟩ (HS.out).T (Stk.refl _)⟩
 have HS2:=Lib.hid (HS.out.callT hk hS hP hT)
 have HAw2:=Lib.hid (And.intro htw2 hiw2)
 clear hk hS hP hT htw2 hiw2
 obtain ⟨r0,r1,r2,r3,r4,rf0,rf1,rf2,rf3,rf4,rl⟩:=HS2.out.c5 0 rfl
 go_wp2_with fail
 have HSF:=Lib.hid (HS2.out.set5 0 rfl (.int .i64 y.kind) (.string ⟨y.text.toArray⟩) (.float .f64 y.num) (.slice aw2 y.kids.length nw2) (.int .i64 y.at'))
 generalize (((((w2.setCell _ _).setCell _ _).setCell _ _).setCell _ _).setCell _ _) = wf at HSF ⊢
 obtain ⟨z0,z1,z2,z3,z4,zf0,zf1,zf2,zf3,zf4,zl⟩:=HSF.out.c5 0 rfl
 refine bodyPost_ret (v:=ndV y (.slice aw2 y.kids.length nw2)) (by simp [results,Tryz.results145,go_sem,z0,z1,z2,z3,z4]) rfl ?_
 exact .ok HAw2.out.1 HAw2.out.2 (HSF.out.node (List.mem_cons_self ..) y rfl)
set_option maxHeartbeats 1000000 in
theorem sum_any (p:Nat) (v:Value) (E:PE) (i0:Nat) (s s2:PS) (y:Nd) (w:World) (h:PAt w p v E s)
  (H:∀ W,PAt W p v E s → Calls Tryz.prog 182 #[PP p,.string ⟨#[43,32,45]⟩,.func (.func 200) #[PP p] #[]] W (NodeR p v E i0 s2 y W)) :
  Calls Tryz.prog 183 #[PP p] w (NodeR p v E i0 s2 y w):=by
 have HS:=Lib.hid ((SW.start h).alloc (ndO zero (.slice none 0 0)))
 have HJ:=Lib.hid (fun W=>H W)
 clear H h
 go_enter Tryz.func183,Tryz.ntmps183
 go_wp2_with fail
 refine (HJ.out _ HS.out.P).mono ?_
 rintro e w2 hnr
 rcases hnr with ⟨tw2,htw2,hiw2,aw2,nw2,Sw2,rfl,hk,hS,hP,hT⟩ | ⟨hc,rfl,hT⟩
 rotate_left
 ·go_wp2_with fail
  exact ⟨rfl,.thr hc ⟨rfl,hT⟩ (HS.out).T (Stk.refl _)⟩
 have HS2:=Lib.hid (HS.out.callT hk hS hP hT)
 have HAw2:=Lib.hid (And.intro htw2 hiw2)
 clear hk hS hP hT htw2 hiw2
 obtain ⟨r0,r1,r2,r3,r4,rf0,rf1,rf2,rf3,rf4,rl⟩:=HS2.out.c5 0 rfl
 go_wp2_with fail
 have HSF:=Lib.hid (HS2.out.set5 0 rfl (.int .i64 y.kind) (.string ⟨y.text.toArray⟩) (.float .f64 y.num) (.slice aw2 y.kids.length nw2) (.int .i64 y.at'))
 generalize (((((w2.setCell _ _).setCell _ _).setCell _ _).setCell _ _).setCell _ _) = wf at HSF ⊢
 obtain ⟨z0,z1,z2,z3,z4,zf0,zf1,zf2,zf3,zf4,zl⟩:=HSF.out.c5 0 rfl
 refine bodyPost_ret (v:=ndV y (.slice aw2 y.kids.length nw2)) (by simp [results,Tryz.results183,go_sem,z0,z1,z2,z3,z4]) rfl ?_
 exact .ok HAw2.out.1 HAw2.out.2 (HSF.out.node (List.mem_cons_self ..) y rfl)
set_option maxHeartbeats 1000000 in
theorem term_any (p:Nat) (v:Value) (E:PE) (i0:Nat) (s s2:PS) (y:Nd) (w:World) (h:PAt w p v E s)
  (H:∀ W,PAt W p v E s → Calls Tryz.prog 182 #[PP p,.string ⟨#[42,32,47,32,37]⟩,.func (.func 219) #[PP p] #[]] W (NodeR p v E i0 s2 y W)) :
  Calls Tryz.prog 200 #[PP p] w (NodeR p v E i0 s2 y w):=by
 have HS:=Lib.hid ((SW.start h).alloc (ndO zero (.slice none 0 0)))
 have HJ:=Lib.hid (fun W=>H W)
 clear H h
 go_enter Tryz.func200,Tryz.ntmps200
 go_wp2_with fail
 refine (HJ.out _ HS.out.P).mono ?_
 rintro e w2 hnr
 rcases hnr with ⟨tw2,htw2,hiw2,aw2,nw2,Sw2,rfl,hk,hS,hP,hT⟩ | ⟨hc,rfl,hT⟩
 rotate_left
 ·go_wp2_with fail
  exact ⟨rfl,.thr hc ⟨rfl,hT⟩ (HS.out).T (Stk.refl _)⟩
 have HS2:=Lib.hid (HS.out.callT hk hS hP hT)
 have HAw2:=Lib.hid (And.intro htw2 hiw2)
 clear hk hS hP hT htw2 hiw2
 obtain ⟨r0,r1,r2,r3,r4,rf0,rf1,rf2,rf3,rf4,rl⟩:=HS2.out.c5 0 rfl
 go_wp2_with fail
 have HSF:=Lib.hid (HS2.out.set5 0 rfl (.int .i64 y.kind) (.string ⟨y.text.toArray⟩) (.float .f64 y.num) (.slice aw2 y.kids.length nw2) (.int .i64 y.at'))
 generalize (((((w2.setCell _ _).setCell _ _).setCell _ _).setCell _ _).setCell _ _) = wf at HSF ⊢
 obtain ⟨z0,z1,z2,z3,z4,zf0,zf1,zf2,zf3,zf4,zl⟩:=HSF.out.c5 0 rfl
 refine bodyPost_ret (v:=ndV y (.slice aw2 y.kids.length nw2)) (by simp [results,Tryz.results200,go_sem,z0,z1,z2,z3,z4]) rfl ?_
 exact .ok HAw2.out.1 HAw2.out.2 (HSF.out.node (List.mem_cons_self ..) y rfl)
theorem isAny_more {E:PE} {l:Nat} {s:PS} (hc:s.code = 0) (h:isAny E l s = true):(pn E s).kind ≠ 0 ∧ sT E s = s ∧ tk E s = pn E s ∧ par.ms E (inc s) < par.ms E s:=by
 have hk:=isAny_at h
 have h2:=(tk_kind (by rw [hk];decide)).2.2
 have h3:=pn_tk (E:=E) hc (by rw [hk];decide)
 refine ⟨by rw [h3.1,hk];decide,h2,h3.1.symm,?_⟩
 have:=ms_inc (E:=E) (s:=s) (by rw [hk];decide)
 rw [h2] at this
 exact this
set_option maxHeartbeats 4000000 in
theorem exprJ {p:Nat} {v:Value} {E:PE} {f:Nat} (J:∀ k,k ≤ f → QJobs p v E k) (s:PS) (x:Nd) (s2:PS) (W:World) (hf:16 * ms E s + rank (.bin 0) ≤ f + 1) (hr:run E (f + 1) (.bin 0) s = some ([x],s2)) (h:PAt W p v E s) :
  Calls Tryz.prog 108 #[PP p] W (NodeR p v E s.i s2 x W):=by
 have HS:=Lib.hid (SW.start h)
 have hc0:=h.c0
 clear h
 simp only [rank] at hf
 rw [run,if_neg (by decide)] at hr
 obtain ⟨y,s3,h1,hm,-⟩:=(run_ends E f (.bin (0 + 1)) s (by simp [okJ]) (by simp only [rank];omega)).one rfl
 simp only [h1] at hr
 have HJ:=Lib.hid (fun W h=>(J f (Nat.le_refl _)).join s y s3 W (by simp only [rank];omega) h1 h)
 have HJJ:=Lib.hid J
 have HR:=Lib.hid hr
 have HM:Hid (s.code = 0 ∧ 16 * ms E s ≤ f ∧ 1 ≤ f):=⟨hc0,by omega,by omega⟩
 clear J hf hr h1 hm hc0
 have HS0:=Lib.hid (HS.out.alloc (ndO zero (.slice none 0 0)))
 clear HS
 go_enter Tryz.func108,Tryz.ntmps108
 go_upto_region 1 with fail
 change Code.wp _ _ _ _ (W.alloc (ndO zero (.slice none 0 0)))
 generalize W.alloc (ndO zero (.slice none 0 0)) = w0 at *
 generalize hbr:W.heap.size = br at *
 go_wp2_with fail
 refine (HJ.out _ HS0.out.P).mono ?_
 rintro e w5 hnr
 rcases hnr with ⟨tw5,htw5,hiw5,aw5,nw5,Sw5,rfl,hk,hS,hP,hT⟩ | ⟨hc,rfl,hT⟩
 rotate_left
 ·go_wp2_with fail
  exact ⟨rfl,.thr hc ⟨rfl,hT⟩ (HS0.out).T (run_stk E _ _ _ _ _ HR.out)⟩
 have HS2:=Lib.hid (HS0.out.callT hk hS hP hT)
 have HAw5:=Lib.hid (And.intro htw5 hiw5)
 clear hk hS hP hT htw5 hiw5
 have HS4:=Lib.hid (HS2.out.alloc (ndO y (.slice aw5 y.kids.length nw5)))
 clear HS2 HS0 HJ
 have HK:Hid (16 * ms E tw5 + 1 ≤ f ∧ s.i < tw5.i):=⟨by
  have:=HS4.out.P.ms HM.out.1 HAw5.out.2
  have:=HM.out.2
  omega,HAw5.out.2⟩
 obtain ⟨k',rfl⟩:∃ k',f = k' + 1:=⟨f - 1,by have:=HM.out.2.2;omega⟩
 have hr:=HR.out
 have hc:=HS4.out.P.c0
 rw [Al.run HAw5.out.1 _ _ (fun _ h=>by cases h),run,if_neg (by simp [hc])] at hr
 clear HM HAw5 HR
 generalize tw5 = s4 at *
 have hpn:=isAny_pn0 (E:=E) hc
 have HKD:Hid (isAny E 0 s4 = true → (pn E s4).kind ≠ 0 ∧ sT E s4 = s4 ∧ tk E s4 = pn E s4 ∧ ms E (inc s4) < ms E s4):=fun h=>isAny_more hc h
 have HR:=Lib.hid hr
 clear hr hc
 have HA:=Lib.hid (fun W hW=>among_any p v E s4 [61,61,32,60] [[61,61],[60]] _ W hW (by decide) (by decide) hpn.symm)
 clear hpn
 go_upto_region 2 with fail
 generalize w5.alloc _ = wi at *
 generalize w5.heap.size = bx at *
 generalize isAny E 0 s4 = ba at *
 go_wp2_with fail
 refine (HA.out _ HS4.out.P).mono ?_;rintro e w6 ⟨rfl,hb6⟩
 have HS6:=Lib.hid (HS4.out.call (HS4.out.P.below hb6) (Turned.of_below hb6))
 clear hb6 HA HS4
 cases ba with
 | false =>
  have hr:=HR.out
  rw [if_neg (by decide)] at hr
  cases hr
  clear HR HKD HJJ
  obtain ⟨x0,x1,x2,x3,x4,xf0,xf1,xf2,xf3,xf4,xl⟩:=HS6.out.c5 0 rfl
  obtain ⟨r0,r1,r2,r3,r4,rf0,rf1,rf2,rf3,rf4,rl⟩:=HS6.out.c5 1 rfl
  go_wp2_with fail
  have HSF:=Lib.hid ((HS6.out.set5 1 rfl (.int .i64 x.kind) (.string ⟨x.text.toArray⟩) (.float .f64 x.num) (.slice aw5 x.kids.length nw5) (.int .i64 x.at')))
  generalize (((((w6.setCell _ _).setCell _ _).setCell _ _).setCell _ _).setCell _ _) = wf at HSF ⊢
  obtain ⟨z0,z1,z2,z3,z4,zf0,zf1,zf2,zf3,zf4,zl⟩:=HSF.out.c5 1 rfl
  refine bodyPost_ret (v:=ndV x (.slice aw5 x.kids.length nw5)) (by simp [results,Tryz.results108,go_sem,z0,z1,z2,z3,z4]) rfl ?_
  exact .ok (.inr rfl) HK.out.2 (HSF.out.node (List.mem_cons_self ..) x rfl)
 | true =>
  obtain ⟨hk0,hsT,htk,hmi⟩:=HKD.out rfl
  have hr:=HR.out
  rw [if_pos rfl,htk,hsT] at hr
  obtain ⟨z,s5,h1,-,-⟩:=(run_ends E k' (.bin (0 + 1)) (inc s4) (by simp [okJ]) (by simp only [rank];have:=HK.out.1;omega)).one rfl
  simp only [h1,↓reduceIte] at hr
  cases hr
  have HJ2:=Lib.hid (fun W h=>(HJJ.out k' (by omega)).join (inc s4) z s2 W (by simp only [rank];have:=HK.out.1;omega) h1 h)
  have HNX:=Lib.hid (fun W hW=>next_any p v E s4 W hW hk0)
  clear HR HKD hk0 hsT htk hmi h1 HJJ
  generalize pn E s4 = t at *
  go_wp2_with fail
  refine (HNX.out _ HS6.out.P).mono ?_;rintro e w7 ⟨rfl,hP,hT⟩
  have HS7:=Lib.hid ((HS6.out.call hP hT).alloc (tnO t))
  clear hP hT HS6 HNX
  go_upto_region 4 with fail
  change Code.wp _ _ _ _ (w7.alloc (tnO t))
  generalize w7.alloc (tnO t) = w8 at *
  generalize w7.heap.size = bt at *
  obtain ⟨o0,o1,o2,o3,of0,of1,of2,of3,ol⟩:=HS7.out.c4 0 rfl
  obtain ⟨x0,x1,x2,x3,x4,xf0,xf1,xf2,xf3,xf4,xl⟩:=HS7.out.c5 1 rfl
  go_wp2_with fail
  go_region_law
   (first
    | (go_simp
       go_at_call 147
       refine (binary_any t y z _ _ _ _ _ _ HS10.out.swap).mono ?_
       rintro e w11 ⟨b11,S11,rfl,hsw⟩
       have HS11:=Lib.hid hsw
       clear hsw
       obtain ⟨r0,r1,r2,r3,r4,rf0,rf1,rf2,rf3,rf4,rl⟩:=HS11.out.c5 1 rfl)
    | (go_simp
       go_at_call 145
       refine (HJ2.out _ (by first | exact HS7.out.P | exact HS7.out.drew.P)).mono ?_
       rintro e w10 hnr
       rcases hnr with ⟨t10,ht,hi,a10,n10,S10,rfl,hk,hS,hP,hT⟩ | ⟨hc,rfl,hT⟩
       rotate_left
       · go_wp2_with fail
         exact ⟨rfl,.thr hc ⟨rfl,hT⟩ HS7.out.drew.T (Stk.refl _)⟩
       have HS10:=Lib.hid (HS7.out.drew.callT hk hS hP hT)
       have HA10:=Lib.hid (And.intro ht hi)
       clear hk hS hP hT ht hi
       obtain ⟨o0,o1,o2,o3,of0,of1,of2,of3,ol⟩:=HS10.out.c4 0 rfl
       obtain ⟨x0,x1,x2,x3,x4,xf0,xf1,xf2,xf3,xf4,xl⟩:=HS10.out.c5 1 rfl))
  all_goals
   have HSd:=Lib.hid ((HS11.out.set5 1 rfl (.int .i64 (Nd.mk 18 t.text 0 [y,z] t.at').kind) (.string ⟨(Nd.mk 18 t.text 0 [y,z] t.at').text.toArray⟩) (.float .f64 (Nd.mk 18 t.text 0 [y,z] t.at').num) (.slice (some ⟨b11,0,none⟩) 2 2) (.int .i64 (Nd.mk 18 t.text 0 [y,z] t.at').at')))
   generalize (((((w11.setCell _ _).setCell _ _).setCell _ _).setCell _ _).setCell _ _) = w12 at HSd ⊢
   clear HS11 HS10 HS7 HJ2
   clear x0 x1 x2 x3 x4 xf0 xf1 xf2 xf3 xf4 xl
   clear r0 r1 r2 r3 r4 rf0 rf1 rf2 rf3 rf4 rl
   obtain ⟨x0,x1,x2,x3,x4,xf0,xf1,xf2,xf3,xf4,xl⟩:=HSd.out.c5 1 rfl
   obtain ⟨r0,r1,r2,r3,r4,rf0,rf1,rf2,rf3,rf4,rl⟩:=HSd.out.c5 2 rfl
   go_wp2_with fail
   have HSF:=Lib.hid ((HSd.out.set5 2 rfl (.int .i64 (Nd.mk 18 t.text 0 [y,z] t.at').kind) (.string ⟨(Nd.mk 18 t.text 0 [y,z] t.at').text.toArray⟩) (.float .f64 (Nd.mk 18 t.text 0 [y,z] t.at').num) (.slice (some ⟨b11,0,none⟩) 2 2) (.int .i64 (Nd.mk 18 t.text 0 [y,z] t.at').at')))
   generalize (((((w12.setCell _ _).setCell _ _).setCell _ _).setCell _ _).setCell _ _) = wf at HSF ⊢
   obtain ⟨z0,z1,z2,z3,z4,zf0,zf1,zf2,zf3,zf4,zl⟩:=HSF.out.c5 2 rfl
   refine bodyPost_ret (v:=ndV (Nd.mk 18 t.text 0 [y,z] t.at') (.slice (some ⟨b11,0,none⟩) 2 2)) (by simp [results,Tryz.results108,go_sem,z0,z1,z2,z3,z4]) rfl ?_
   exact .ok HA10.out.1 (by have h1:s4.i + 1 < t10.i:=HA10.out.2;have:=HK.out.2;omega) (HSF.out.node (List.mem_cons_self ..) (.mk 18 t.text 0 [y,z] t.at') rfl)
theorem unary_sign {E:PE} {s:PS} (h:s.code = 0):(isS E [45] s || isS E [33] s) = ((pn E s).kind == 4 && [[(45:UInt8)],[33]].contains (pn E s).text):=by
 rw [← pn_isS h,← pn_isS h]
 generalize pn E s = t
 rw [List.contains_cons,List.contains_cons,List.contains_nil,Bool.or_false]
 cases (t.kind == 4) <;> rfl
set_option maxHeartbeats 4000000 in
theorem unaryJ {p:Nat} {v:Value} {E:PE} {f:Nat} (J:∀ k,k ≤ f → QJobs p v E k) (s:PS) (x:Nd) (s2:PS) (W:World) (hf:16 * ms E s + rank .unary ≤ f + 1) (hr:run E (f + 1) .unary s = some ([x],s2)) (h:PAt W p v E s) :
  Calls Tryz.prog 219 #[PP p] W (NodeR p v E s.i s2 x W):=by
 have HS:=Lib.hid (SW.start h)
 have hc:=h.c0
 clear h
 simp only [rank] at hf
 have HA:=Lib.hid (fun W hW=>among_any p v E s [45,32,33] [[45],[33]] _ W hW (by decide) (by decide) (unary_sign hc).symm)
 have HS0:=Lib.hid (HS.out.alloc (ndO zero (.slice none 0 0)))
 clear HS
 cases hsg:(isS E [45] s || isS E [33] s) with
 | false =>
  rw [hsg] at HA
  rw [run,if_neg (by rw [hsg];decide),run_sT2 E f .primary s (fun _ h=>by cases h)] at hr
  have HJ:=Lib.hid (fun W h=>(J f (Nat.le_refl _)).prim s x s2 W (by simp only [rank];omega) hr h)
  clear J hf hr hsg hc
  go_enter Tryz.func219,Tryz.ntmps219
  go_wp2_with fail
  refine (HA.out _ HS0.out.P).mono ?_;rintro e w6 ⟨rfl,hb6⟩
  have HS6:=Lib.hid (HS0.out.call (HS0.out.P.below hb6) (Turned.of_below hb6))
  clear hb6 HA HS0
  go_wp2_with fail
  refine (HJ.out _ HS6.out.P).mono ?_
  rintro e w7 hnr
  rcases hnr with ⟨tw7,htw7,hiw7,aw7,nw7,Sw7,rfl,hk,hS,hP,hT⟩ | ⟨hc,rfl,hT⟩
  rotate_left
  ·go_wp2_with fail
   exact ⟨rfl,.thr hc ⟨rfl,hT⟩ (HS6.out).T (Stk.refl _)⟩
  have HS7:=Lib.hid (HS6.out.callT hk hS hP hT)
  have HAw7:=Lib.hid (And.intro htw7 hiw7)
  clear hk hS hP hT htw7 hiw7
  obtain ⟨r0,r1,r2,r3,r4,rf0,rf1,rf2,rf3,rf4,rl⟩:=HS7.out.c5 0 rfl
  go_wp2_with fail
  have HSF:=Lib.hid (HS7.out.set5 0 rfl (.int .i64 x.kind) (.string ⟨x.text.toArray⟩) (.float .f64 x.num) (.slice aw7 x.kids.length nw7) (.int .i64 x.at'))
  generalize (((((w7.setCell _ _).setCell _ _).setCell _ _).setCell _ _).setCell _ _) = wf at HSF ⊢
  obtain ⟨z0,z1,z2,z3,z4,zf0,zf1,zf2,zf3,zf4,zl⟩:=HSF.out.c5 0 rfl
  refine bodyPost_ret (v:=ndV x (.slice aw7 x.kids.length nw7)) (by simp [results,Tryz.results219,go_sem,z0,z1,z2,z3,z4]) rfl ?_
  exact .ok HAw7.out.1 HAw7.out.2 (HSF.out.node (List.mem_cons_self ..) x rfl)
 | true =>
  rw [hsg] at HA
  have hk:(tk E s).kind = 4:=by
   rcases Bool.or_eq_true_iff.1 hsg with h | h
   ·exact (isS_kind h).1
   ·exact (isS_kind h).1
  have hsT:=(tk_kind (E:=E) (s:=s) (by rw [hk];decide)).2.2
  have htk:=(pn_tk (E:=E) hc (by rw [hk];decide)).1
  have hmi:=ms_inc (E:=E) (s:=s) (by rw [hk];decide)
  rw [hsT] at hmi
  obtain ⟨y0,h1,h2⟩:=unary_parts hsg hr
  rw [hsT] at h1
  have hk0:(pn E s).kind ≠ 0:=by rw [htk,hk];decide
  have HNX:=Lib.hid (fun W hW=>next_any p v E s W hW hk0)
  have hmd:ms E (deepen (inc s)) = ms E (inc s):=rfl
  obtain ⟨x3,s3,h3,-,-⟩:=(run_ends E f .unary (deepen (inc s)) trivial (by simp only [rank];omega)).one rfl
  have HJ:Hid (∀ W,PAt W p v E (inc s) → Calls Tryz.prog 235 #[PP p,.func (.func 219) #[PP p] #[]] W (NodeR p v E (inc s).i s2 y0 W)):=fun W hW=>inU p v E (inc s) s2 y0 W hW fun W2 hW2 =>
   (deepU p v E (inc s) (begins E (inc s)) s3 x3 W2 hW2 (fun W3 hb3=>begins_any p v E (inc s) W3 (hW2.below hb3) _ rfl) (fun W3 hW3=>(J f (Nat.le_refl _)).un (deepen (inc s)) x3 s3 W3 (by simp only [rank];omega) h3 hW3)).mono fun e w' hd=>deep_node (s:=inc s) hc h1 x3 s3 h3 (fun t ht ks t2 ht2=>nb_unary ht ht2) W2 w' e hd
  have HX:Hid (s.i + 1 < s2.i → x = .mk 17 (pn E s).text 0 [y0] (pn E s).at'):=by rw [htk];exact h2
  clear J hf hr hsg hc hk hsT htk hmi h1 h2 h3 hk0 hmd
  generalize pn E s = t at *
  go_enter Tryz.func219,Tryz.ntmps219
  go_wp2_with fail
  refine (HA.out _ HS0.out.P).mono ?_;rintro e w6 ⟨rfl,hb6⟩
  have HS6:=Lib.hid (HS0.out.call (HS0.out.P.below hb6) (Turned.of_below hb6))
  clear hb6 HA HS0
  go_wp2_with fail
  refine (HNX.out _ HS6.out.P).mono ?_;rintro e w7 ⟨rfl,hP,hT⟩
  have HS7:=Lib.hid ((HS6.out.call hP hT).alloc (tnO t))
  clear hP hT HS6 HNX
  go_upto_region 4 with fail
  change Code.wp _ _ _ _ (w7.alloc (tnO t))
  generalize w7.alloc (tnO t) = w8 at *
  generalize w7.heap.size = bt at *
  obtain ⟨o0,o1,o2,o3,of0,of1,of2,of3,ol⟩:=HS7.out.c4 0 rfl
  go_wp2_with fail
  go_region_law
   (first
    | (go_simp
       go_at_call 235
       refine (HJ.out _ (by first | exact HS7.out.P | exact HS7.out.drew.P)).mono ?_
       rintro e w10 hnr
       rcases hnr with ⟨t10,ht,hi,a10,n10,S10,rfl,hk,hS,hP,hT⟩ | ⟨hc,rfl,hT⟩
       rotate_left
       · go_wp2_with fail
         exact ⟨rfl,.thr hc ⟨rfl,hT⟩ HS7.out.drew.T (Stk.refl _)⟩
       have HS10:=Lib.hid (HS7.out.drew.callT hk hS hP hT)
       have HA10:=Lib.hid (And.intro ht hi)
       clear hk hS hP hT ht hi
       obtain ⟨o0,o1,o2,o3,of0,of1,of2,of3,ol⟩:=HS10.out.c4 0 rfl
       obtain ⟨r0,r1,r2,r3,r4,rf0,rf1,rf2,rf3,rf4,rl⟩:=HS10.out.c5 1 rfl))
  all_goals
   have hi10:s.i + 1 < t10.i:=HA10.out.2
   obtain rfl:=HX.out (by rw [al_i HA10.out.1];exact hi10)
   have HSF:=Lib.hid (SW.buildAt [_] (HS10.out.set5 1 rfl (.int .i64 17) (.string ⟨t.text.toArray⟩) (.float .f64 0) (.slice (some ⟨w10.heap.size,0,none⟩) 1 1) (.int .i64 t.at')) [y0] rfl (by simp) w10.heap.size (by simp) #[.int .i64 y0.kind,.string ⟨y0.text.toArray⟩,.float .f64 y0.num,.slice a10 y0.kids.length n10,.int .i64 y0.at'] rfl 1 rfl)
   generalize (World.alloc (((((w10.setCell _ _).setCell _ _).setCell _ _).setCell _ _).setCell _ _) _) = wf at HSF ⊢
   clear HS10 HS7 HJ
   clear o0 o1 o2 o3 of0 of1 of2 of3 ol
   clear r0 r1 r2 r3 r4 rf0 rf1 rf2 rf3 rf4 rl
   obtain ⟨z0,z1,z2,z3,z4,zf0,zf1,zf2,zf3,zf4,zl⟩:=HSF.out.c5 1 rfl
   go_wp2_with fail
   refine bodyPost_ret (v:=.agg #[.int .i64 17,.string ⟨t.text.toArray⟩,.float .f64 0,.slice (some ⟨w10.heap.size,0,none⟩) 1 1,.int .i64 t.at']) (by simp [results,Tryz.results219,go_sem,z0,z1,z2,z3,z4]) rfl ?_
   exact .ok HA10.out.1 (by omega) (HSF.out.node (List.mem_cons_self ..) (.mk 17 t.text 0 [y0] t.at') rfl)
end Go.Proofs.YtmfpmandkhiknaaGreatDoor.qar
