/-
  Proved: the document's tree: an edit of one node and of what is at one of its names; Take. Conditions: as each theorem says.
  Proved: the document's tree: a node comes to a path. Conditions: as each theorem says.
  Proved: the document's tree in memory: a node comes to a path (Place). Conditions: as each theorem says.
  Proved: the document's tree in memory: Place, New. Conditions: as each theorem says.
-/
import Derived.Test.YtifhnpkapgaboaaGreatPj30
import Derived.Test.YtifhnpkapgaboaaGreatPj32
import Derived.Test.YtifhnpkapgaboaaGreatPj31
import Derived.Test.YtifhnpkapgaboaaGreatPj29
set_option linter.unusedVariables false
set_option linter.unusedSimpArgs false
namespace Go.Proofs.YtifhnpkapgaboaaGreat.doc
open Go Go.RowKit
open heap
open path (sv str_size SRow joinL)
set_option maxRecDepth 100000
theorem TreeP.alter {w w':World} {base t:Nat} {M:DM} {S:List Nat} (h:TreeP w base t M) (ht:Turned S w w') {x0:BN} (hx:x0 ∈ M) (n:Nm) (f:BN → BN) (zs:DM)
  (hf:∀ x,(f x).ps = x.ps ∧ (f x).b = x.b ∧ (f x).kind = x.kind) (hwf:WF (modM (cutM M (x0.ps ++ [n])) x0.ps f ++ zs))
  (htb:∀ r rest,M = r :: rest → ∃ c fd l i m nx bs,w'.heap[t]? = some (.cells #[pV r.b,c,fd,l,i,m,.int .i64 nx,bs] 78 (0,0)))
  (hS:∀ g ∈ S,g = t ∨ g ∈ blks x0 ∨ w.heap.size ≤ g ∨ ∃ y ∈ M,y.ps = x0.ps ++ [n] ∧ g ∈ blks y)
  (hn:NodeAt w' base (f x0)) (hn1:(blks (f x0)).Nodup) (hn2:∀ g ∈ blks (f x0),g ∈ blks x0 ∨ w.heap.size ≤ g)
  (hz:∀ z ∈ zs,z.ps = x0.ps ++ [n] ∧ NodeAt w' base z ∧ (blks z).Nodup ∧ ∀ g ∈ blks z,w.heap.size ≤ g ∧ g ∉ blks (f x0)) :
  TreeP w' base t (modM (cutM M (x0.ps ++ [n])) x0.ps f ++ zs) ∧ ∀ g ∈ allB t (modM (cutM M (x0.ps ++ [n])) x0.ps f ++ zs),g ∈ allB t M ∨ w.heap.size ≤ g:=by
 have hcase:∀ x ∈ modM (cutM M (x0.ps ++ [n])) x0.ps f ++ zs,(x ∈ M ∧ x.ps ≠ x0.ps ∧ ¬ (x0.ps ++ [n]) <+: x.ps) ∨ x = f x0 ∨ x ∈ zs:=by
  intro x hxm
  rcases List.mem_append.1 hxm with h1 | h1
  ·obtain ⟨x',hx',rfl⟩:=mem_mod.1 h1
   obtain ⟨hxM,hxp⟩:=mem_cut.1 hx'
   by_cases e:x'.ps = x0.ps
   ·rw [if_pos e,h.wf.one hxM hx e];exact .inr (.inl rfl)
   ·rw [if_neg e];exact .inl ⟨hxM,e,hxp⟩
  ·exact .inr (.inr h1)
 refine ⟨h.edit ht hwf ?_ ?_ ?_,?_⟩
 ·obtain ⟨r,rest,hM,hr,-⟩:=h.wf.root
  obtain ⟨c,fd,l,i,m,nx,bs,hb⟩:=htb r rest hM
  have hc:cutM M (x0.ps ++ [n]) = r :: cutM rest (x0.ps ++ [n]):=by
   rw [hM]
   unfold cutM
   rw [List.filter_cons_of_pos]
   rw [Bool.not_eq_true',← Bool.not_eq_true,atB_iff,hr]
   intro hp
   have:=hp.length_le
   simp at this
  refine ⟨if r.ps = x0.ps then f r else r,modM (cutM rest (x0.ps ++ [n])) x0.ps f ++ zs,c,fd,l,i,m,nx,bs,by rw [hc];rfl,?_⟩
  split
  ·rw [(hf r).2.1];exact hb
  ·exact hb
 ·intro x hxm
  rcases hcase x hxm with ⟨hxM,hne,hnp⟩ | rfl | hxz
  ·refine .inl ⟨hxM,fun g hg hgS => ?_⟩
   rcases hS g hgS with rfl | h1 | h1 | ⟨y,hy,hyp,h1⟩
   ·exact (h.one x hxM).2 hg
   ·exact h.two x hxM x0 hx hne g hg h1
   ·have:=((h.node x hxM).lt hg).2;omega
   ·exact h.two x hxM y hy (fun e=>hnp (by rw [e,hyp];exact List.prefix_refl _)) g hg h1
  ·refine .inr ⟨hn,hn1,fun g hg => ?_⟩
   rcases hn2 g hg with h1 | h1
   ·exact .inr ⟨x0,hx,(hf x0).1.symm,h1⟩
   ·exact .inl h1
  ·obtain ⟨-,h1,h2,h3⟩:=hz x hxz
   exact .inr ⟨h1,h2,fun g hg=>.inl (h3 g hg).1⟩
 ·intro x hxm y hym hne g hgx hgy
  refine Classical.byContradiction fun hlt => ?_
  have old:∀ z ∈ M,g ∈ blks z → False:=fun z hz hg=>hlt ((h.node z hz).lt hg).2
  rcases hcase x hxm with ⟨hxM,-⟩ | rfl | hxz
  ·exact old x hxM hgx
  ·rcases hcase y hym with ⟨hyM,-⟩ | rfl | hyz
   ·exact old y hyM hgy
   ·exact hne rfl
   ·exact ((hz y hyz).2.2.2 g hgy).2 hgx
  ·rcases hcase y hym with ⟨hyM,-⟩ | rfl | hyz
   ·exact old y hyM hgy
   ·exact ((hz x hxz).2.2.2 g hgx).2 hgy
   ·exact hne (by rw [(hz x hxz).1,(hz y hyz).1])
 ·intro g hg
  rcases mem_allB.1 hg with rfl | ⟨x,hxm,hgx⟩
  ·exact .inl (mem_allB.2 (.inl rfl))
  ·rcases hcase x hxm with ⟨hxM,-⟩ | rfl | hxz
   ·exact .inl (mem_allB.2 (.inr ⟨x,hxM,hgx⟩))
   ·rcases hn2 g hgx with h1 | h1
    ·exact .inl (mem_allB.2 (.inr ⟨x0,hx,h1⟩))
    ·exact .inr h1
   ·exact .inr ((hz x hxz).2.2.2 g hgx).1
theorem WF.gone {M:DM} (hw:WF M) {x0:BN} (hx:x0 ∈ M) {n:Nm} (hn:n ∈ x0.names) (f:BN → BN) (hf:∀ x,(f x).ps = x.ps ∧ (f x).b = x.b ∧ (f x).kind = x.kind)
  (hfn:(f x0).names = x0.names.eraseIdx (kidIx x0.names n)) (hfk:(f x0).kids = x0.kids.eraseIdx (kidIx x0.names n)):WF (modM (cutM M (x0.ps ++ [n])) x0.ps f ++ []):=by
 have hix:=((hw.srt x0 hx).mem n).1 hn
 have hil:=(List.getElem?_eq_some_iff.1 hix).1
 have hlen:=hw.len x0 hx
 have hnd:=(hw.srt x0 hx).nodup
 have herase:∀ m ∈ x0.names,m ≠ n → m ∈ x0.names.eraseIdx (kidIx x0.names n):=fun m hm hmn=>by
  obtain ⟨j,hj⟩:=List.getElem?_of_mem hm
  refine List.mem_eraseIdx_iff_getElem?.2 ⟨j,fun e=>hmn ?_,hj⟩
  rw [e,hix] at hj
  exact (Option.some.inj hj).symm
 exact hw.edit hx n f [] hf (by rw [hfn];exact (hw.srt x0 hx).del _) (by rw [hfn,hfk,List.length_eraseIdx_of_lt hil,List.length_eraseIdx_of_lt (by omega)];omega)
  (fun i m c h1 h2=>.inl (by
   rw [hfn] at h1
   rw [hfk] at h2
   rw [List.getElem?_eraseIdx] at h1 h2
   by_cases hi:i < kidIx x0.names n
   ·rw [if_pos hi] at h1 h2
    refine ⟨fun e => ?_,i,h1,h2⟩
    rw [e] at h1
    have:=(hw.srt x0 hx).at h1
    omega
   ·rw [if_neg hi] at h1 h2
    refine ⟨fun e => ?_,i + 1,h1,h2⟩
    rw [e] at h1
    have:=(hw.srt x0 hx).at h1
    omega)) (by rw [hfn];exact herase) (fun z hz=>by cases hz) (by simp)
theorem WF.ixs {M:DM} (hw:WF M) {x0:BN} (hx:x0 ∈ M) {n:Nm} (hn:n ∈ x0.names):x0.names[kidIx x0.names n]? = some n ∧ ∃ y ∈ M,y.ps = x0.ps ++ [n] ∧ x0.kids[kidIx x0.names n]? = some y.b:=by
 refine ⟨((hw.srt x0 hx).mem n).1 hn,?_⟩
 rcases hw.kid hx n with ⟨-,y,hy,hk⟩ | ⟨h1,-⟩
 ·exact ⟨y,(findM_some hy).1,(findM_some hy).2,hk⟩
 ·exact absurd hn h1
def takF (x0:BN) (n:Nm) (nv kv:Value) (x:BN):BN:={ x with names:=x0.names.eraseIdx (kidIx x0.names n),kids:=x0.kids.eraseIdx (kidIx x0.names n),nv:=nv,kv:=kv }
theorem join_len (qs:List Nm) (n:Nm):(joinL qs).length ≤ (joinL (qs ++ [n])).length:=by
 by_cases hq:qs = []
 ·rw [hq,path.joinL_nil];simp
 ·rw [path.joinL_snoc _ _ hq];simp
theorem Find_at {base t:Nat} {M:DM} {x:BN} (hx:x ∈ M) (hg:Good x.ps) (w:World) (h:TreeP w base t M) (hM:M.length ≤ 1000000000) (hl:(joinL x.ps).length ≤ 2000000) :
  Calls Tryz.prog 25 #[pV t,sv (joinL x.ps)] w fun e w'=>e = .returned (pV x.b) ∧ Below w.heap.size w w':=
 (Find_any x.ps hg w h hM hl).mono fun e w' ⟨h1,h2⟩=>⟨by rw [h1,h.wf.find hx];rfl,h2⟩
set_option maxHeartbeats 1000000 in
theorem Take_any {base t:Nat} {M:DM} {w:World} (h:TreeP w base t M) (hM:M.length ≤ 1000000000) {x0:BN} (hx:x0 ∈ M) {n:Nm} (hn:n ∈ x0.names) (hg:Good (x0.ps ++ [n])) (hl:(joinL (x0.ps ++ [n])).length ≤ 2000000) :
  Calls Tryz.prog 74 #[pV t,sv (joinL (x0.ps ++ [n]))] w fun e w'=>e = .returned (.tuple #[]) ∧ ∃ nv kv,TreeP w' base t (modM (cutM M (x0.ps ++ [n])) x0.ps (takF x0 n nv kv)) ∧ Turned (allB t M) w w' ∧
   ∀ g ∈ allB t (modM (cutM M (x0.ps ++ [n])) x0.ps (takF x0 n nv kv)),g ∈ allB t M ∨ w.heap.size ≤ g:=by
 have HS:=Lib.hid (fun W:World=>Split_join x0.ps n hg W hl)
 have HT:=Lib.hid h
 have HF:=Lib.hid (fun (W:World) (k:TreeP W base t M)=>Find_at hx hg.left W k hM (Nat.le_trans (join_len _ _) hl))
 have HD:Hid (∀ W:World,TreeP W base t M → Calls Tryz.prog 106 #[pV x0.b,sv n] W fun e w'=>e = .returned (.tuple #[]) ∧ ∃ nv kv,TreeP w' base t (modM (cutM M (x0.ps ++ [n])) x0.ps (takF x0 n nv kv)) ∧ Turned (allB t M) W w' ∧
   ∀ g ∈ allB t (modM (cutM M (x0.ps ++ [n])) x0.ps (takF x0 n nv kv)),g ∈ allB t M ∨ W.heap.size ≤ g):=by
  intro W k
  obtain ⟨hi,y,hy,hyp,hk⟩:=k.wf.ixs hx hn
  obtain ⟨yid,yup,hyb⟩:=(k.node y hy).blk
  have hyx:x0.ps ≠ y.ps:=fun e=>not_pre x0.ps n (by rw [← hyp,← e];exact List.prefix_refl _)
  have hyn:y.b ∉ blks x0:=fun e=>k.two x0 hx y hy hyx _ e (mem_blks.2 (.inl rfl))
  refine (drop_any base x0 n y.b yid y.kind y.mode y.data y.nv y.kv yup W (k.node x0 hx) hi hk (k.wf.len x0 hx) (Nat.le_trans (k.wf.wide hx) hM) hyb hyn (k.one x0 hx).1).mono ?_
  rintro e w' ⟨he,nv,kv,h1,h2,h3,h4,h5⟩
  refine ⟨he,nv,kv,?_⟩
  have hwf:=k.wf.gone hx hn (takF x0 n nv kv) (fun _=>⟨rfl,rfl,rfl⟩) rfl rfl
  have hbx:=((k.node x0 hx).lt (mem_blks.2 (.inl rfl))).2
  have hA:=k.alter h5 hx n (takF x0 n nv kv) [] (fun _=>⟨rfl,rfl,rfl⟩) hwf ?_ ?_ h1 ?_ ?_ (fun z hz=>by cases hz)
  ·rw [List.append_nil] at hA
   refine ⟨hA.1,h5.mono ?_,hA.2⟩
   intro g hg
   rcases List.mem_cons.1 hg with rfl | hg
   ·exact mem_allB.2 (.inr ⟨y,hy,mem_blks.2 (.inl rfl)⟩)
   ·rw [List.mem_singleton.1 hg]
    exact mem_allB.2 (.inr ⟨x0,hx,mem_blks.2 (.inl rfl)⟩)
  ·intro r rest hMr
   obtain ⟨r',rest',c,fd,l,i,m,nx,bs,hM',hb⟩:=k.tb
   rw [hMr,List.cons.injEq] at hM'
   rw [hM'.1]
   refine ⟨c,fd,l,i,m,nx,bs,h5.kept hb ?_⟩
   intro hm
   rcases List.mem_cons.1 hm with e | hm
   ·exact (k.one y hy).2 (mem_blks.2 (.inl e))
   ·exact (k.one x0 hx).2 (mem_blks.2 (.inl (List.mem_singleton.1 hm)))
  ·intro g hg
   rcases List.mem_cons.1 hg with rfl | hg
   ·exact .inr (.inr (.inr ⟨y,hy,hyp,mem_blks.2 (.inl rfl)⟩))
   ·rw [List.mem_singleton.1 hg]
    exact .inr (.inl (mem_blks.2 (.inl rfl)))
  ·show (x0.b :: (nv.ownBlock.toList ++ kv.ownBlock.toList)).Nodup
   cases e1:nv.ownBlock with
   | none => 
    cases e2:kv.ownBlock with
    | none=>simp
    | some b=>have:=h3 b e2;simp;omega
   | some a =>
    cases e2:kv.ownBlock with
    | none=>have:=h2 a e1;simp;omega
    | some b => 
     have u1:=h3 b e2
     have u2:=h2 a e1
     have u3:a ≠ b:=fun e=>h4 a e1 (by rw [e2,e])
     simp only [Option.toList_some,List.singleton_append,List.nodup_cons,List.mem_cons,List.not_mem_nil,or_false,not_or,List.nodup_nil,not_false_eq_true,and_true]
     exact ⟨⟨by omega,by omega⟩,u3⟩
  ·intro g hg
   rcases mem_blks.1 hg with e | e | e
   ·exact .inl (mem_blks.2 (.inl e))
   ·exact .inr (h2 g e)
   ·exact .inr (h3 g e)
 clear h hM hx hn hg hl
 generalize joinL (x0.ps ++ [n]) = s at *
 generalize joinL x0.ps = u at *
 go_enter Tryz.func74,Tryz.ntmps74
 go_wp2_with fail
 (with_reducible refine (HS.out _).mono ?_);rintro e w1 ⟨rfl,hb1⟩
 have HT1:Hid (TreeP w1 base t M):=HT.out.below hb1
 have HB1:=Lib.hid hb1
 clear hb1
 go_wp2_with fail
 (with_reducible refine (HF.out _ HT1.out).mono ?_);rintro e w2 ⟨rfl,hb2⟩
 have HT2:Hid (TreeP w2 base t M):=HT1.out.below hb2
 have HB2:Hid (Below w.heap.size w w2):=HB1.out.trans (hb2.mono HB1.out.size)
 clear hb2
 go_wp2_with fail
 (with_reducible refine (HD.out _ HT2.out).mono ?_);rintro e w3 ⟨rfl,HE⟩
 have HE:=Lib.hid HE
 go_wp2_with fail
 go_end0
 obtain ⟨nv,kv,h1,h2,h3⟩:=HE.out
 refine ⟨rfl,nv,kv,h1,?_,fun g hg => ?_⟩
 ·exact ((Turned.of_below HB2.out).trans h2)
 ·rcases h3 g hg with e | e
  ·exact .inl e
  ·exact .inr (Nat.le_trans HB2.out.size e)
end Go.Proofs.YtifhnpkapgaboaaGreat.doc
namespace Go.Proofs.YtifhnpkapgaboaaGreat.doc
open Go Go.RowKit
open heap
open fld
open arch (Ent e0)
open path (sv str_size SRow joinL)
set_option maxRecDepth 100000
def setF (x0:BN) (n:Nm) (zb:Nat) (x:BN):BN:={ x with names:=x0.names,kids:=x0.kids.set (kidIx x0.names n) zb,nv:=x0.nv,kv:=x0.kv }
structure PutF (x0:BN) (n:Nm) (zb:Nat) (f:BN → BN):Prop where
 hf:∀ x,(f x).ps = x.ps ∧ (f x).b = x.b ∧ (f x).kind = x.kind
 how:(n ∉ x0.names ∧ (f x0).names = insN x0.names n ∧ (f x0).kids = x0.kids.take (kidIx x0.names n) ++ zb :: x0.kids.drop (kidIx x0.names n)) ∨ (n ∈ x0.names ∧ f = setF x0 n zb)
theorem WF.putF {M:DM} (hw:WF M) {x0:BN} (hx:x0 ∈ M) {n:Nm} {z:BN} {f:BN → BN} (hp:PutF x0 n z.b f) (hz:z.ps = x0.ps ++ [n] ∧ z.names = [] ∧ z.kids = []):WF (modM (cutM M (x0.ps ++ [n])) x0.ps f ++ [z]):=by
 have hf:=hp.hf
 have hlen:=hw.len x0 hx
 have hil:=kidIx_le x0.names n
 rcases hp.how with ⟨hn,hfn,hfk⟩ | ⟨hn,rfl⟩
 ·skip
  exact hw.edit hx n f [z] hf (by rw [hfn];exact (hw.srt x0 hx).ins n hn)
   (by rw [hfn,hfk];unfold insN;simp only [List.length_append,List.length_take,List.length_cons,List.length_drop];omega)
   (fun i m c h1 h2=>by
    rw [hfn] at h1
    rw [hfk] at h2
    unfold insN at h1
    rcases Nat.lt_trichotomy i (kidIx x0.names n) with hi | hi | hi
    ·rw [List.getElem?_append_left (by rw [List.length_take];omega),List.getElem?_take_of_lt hi] at h1 h2
     exact .inl ⟨fun e=>hn (e ▸ List.mem_of_getElem? h1),i,h1,h2⟩
    ·rw [List.getElem?_append_right (by rw [List.length_take];omega),List.length_take,show i - min (kidIx x0.names n) x0.names.length = 0 by omega] at h1
     rw [List.getElem?_append_right (by rw [List.length_take];omega),List.length_take,show i - min (kidIx x0.names n) x0.kids.length = 0 by omega] at h2
     simp only [List.getElem?_cons_zero,Option.some.injEq] at h1 h2
     exact .inr ⟨z,by simp,h1.symm,h2⟩
    ·obtain ⟨j,rfl⟩:∃ j,i = kidIx x0.names n + 1 + j:=⟨i - kidIx x0.names n - 1,by omega⟩
     rw [List.getElem?_append_right (by rw [List.length_take];omega),List.length_take,show kidIx x0.names n + 1 + j - min (kidIx x0.names n) x0.names.length = j + 1 by omega,List.getElem?_cons_succ,List.getElem?_drop] at h1
     rw [List.getElem?_append_right (by rw [List.length_take];omega),List.length_take,show kidIx x0.names n + 1 + j - min (kidIx x0.names n) x0.kids.length = j + 1 by omega,List.getElem?_cons_succ,List.getElem?_drop] at h2
     exact .inl ⟨fun e=>hn (e ▸ List.mem_of_getElem? h1),_,h1,h2⟩)
   (fun m hm _=>by rw [hfn];exact (mem_insN _ _ _).2 (.inr hm))
   (fun z' hz'=>by
    rw [List.mem_singleton.1 hz']
    exact ⟨hz.1,hz.2.1,hz.2.2,by rw [hfn];exact (mem_insN _ _ _).2 (.inl rfl)⟩) (by simp)
 ·have hix:=((hw.srt x0 hx).mem n).1 hn
  have hin:=(List.getElem?_eq_some_iff.1 hix).1
  refine hw.edit hx n (setF x0 n z.b) [z] hf (hw.srt x0 hx) (by show x0.names.length = (x0.kids.set _ _).length;rw [List.length_set];exact hlen) ?_ (fun m hm _=>hm) ?_ (by simp)
  ·intro i m c h1 h2
   have h1:x0.names[i]? = some m:=h1
   have h2:(x0.kids.set (kidIx x0.names n) z.b)[i]? = some c:=h2
   by_cases hi:kidIx x0.names n = i
   ·rw [← hi] at h1 h2
    rw [List.getElem?_set_self (by omega)] at h2
    rw [hix] at h1
    exact .inr ⟨z,by simp,(Option.some.inj h1).symm,Option.some.inj h2⟩
   ·rw [List.getElem?_set_ne hi] at h2
    refine .inl ⟨fun e=>hi ?_,i,h1,h2⟩
    rw [e] at h1
    exact (hw.srt x0 hx).at h1
  ·intro z' hz'
   rw [List.mem_singleton.1 hz']
   exact ⟨hz.1,hz.2.1,hz.2.2,hn⟩
theorem kidIx_erase {ns:List Nm} (h:Srt ns) {n:Nm} (hn:n ∈ ns):kidIx (ns.eraseIdx (kidIx ns n)) n = kidIx ns n:=by
 have hix:=(h.mem n).1 hn
 have hin:=(List.getElem?_eq_some_iff.1 hix).1
 have hlow:∀ a ∈ ns.take (kidIx ns n),bl a n = true:=fun a ha=>by
  obtain ⟨j,hj⟩:=List.getElem?_of_mem ha
  rw [List.getElem?_take] at hj
  split at hj
  ·rename_i hlt;exact kidIx_low ns n j a hlt hj
  ·cases hj
 rw [List.eraseIdx_eq_take_drop_succ]
 show ((ns.take (kidIx ns n) ++ ns.drop (kidIx ns n + 1)).takeWhile fun x=>bl x n).length = _
 rw [List.takeWhile_append_of_pos hlow,List.length_append,List.length_take]
 have h2:(ns.drop (kidIx ns n + 1)).takeWhile (fun x=>bl x n) = []:=by
  cases hd:ns.drop (kidIx ns n + 1) with
  | nil=>rfl
  | cons a r =>
   rw [List.takeWhile_cons_of_neg]
   intro ha
   have h3:ns[kidIx ns n + 1]? = some a:=by
    have:=congrArg (fun l=>l[0]?) hd
    simpa using this
   obtain ⟨hlt,h3⟩:=List.getElem?_eq_some_iff.1 h3
   have hs:=List.pairwise_iff_getElem.1 h (kidIx ns n) (kidIx ns n + 1) hin hlt (by omega)
   rw [h3,(List.getElem?_eq_some_iff.1 hix).2] at hs
   rw [bl_asymm hs] at ha
   cases ha
 rw [h2]
 simp
 omega
theorem mod_mod (M:DM) (ps:List Nm) (f1 f2:BN → BN) (h:∀ x,(f1 x).ps = x.ps) (h2:∀ x,f2 (f1 x) = f2 x):modM (modM M ps f1) ps f2 = modM M ps f2:=by
 unfold modM
 rw [List.map_map]
 refine List.map_congr_left fun x _ => ?_
 show (if (if x.ps = ps then f1 x else x).ps = ps then f2 (if x.ps = ps then f1 x else x) else (if x.ps = ps then f1 x else x)) = _
 by_cases e:x.ps = ps
 ·rw [if_pos e,if_pos (by rw [h];exact e),if_pos e,h2]
 ·rw [if_neg e,if_neg e]
theorem Rel.putF {F:Fld} {M:DM} (h:Rel F M) {x0:BN} (hx:x0 ∈ M) {n:Nm} (hg:Good (x0.ps ++ [n])) {z:BN} {f:BN → BN} (hp:PutF x0 n z.b f) (hz:z.ps = x0.ps ++ [n] ∧ z.names = [] ∧ z.kids = [])
  (e:Ent) (hep:e.path = joinL (x0.ps ++ [n])) (hek:e.kind = z.kind) (hfew:M.length ≤ 1000000000):Rel (fld.putF (if n ∈ x0.names then goneF F (joinL (x0.ps ++ [n])) else F) e) (modM (cutM M (x0.ps ++ [n])) x0.ps f ++ [z]):=by
 rcases hp.how with ⟨hn,hfn,hfk⟩ | ⟨hn,rfl⟩
 ·rw [if_neg hn,cut_id h.wf hx hn]
  exact h.put hx hn hg f hp.hf z hz hfn hfk e hep hek hfew
 ·rw [if_pos hn]
  have hlen:=h.wf.len x0 hx
  have hsrt:=h.wf.srt x0 hx
  have hix:=(hsrt.mem n).1 hn
  obtain ⟨hin,hixe⟩:=List.getElem?_eq_some_iff.1 hix
  have h1:=h.gone hx hn hg (takF x0 n x0.nv x0.kv) (fun _=>⟨rfl,rfl,rfl⟩) rfl rfl hfew
  have hx1:takF x0 n x0.nv x0.kv x0 ∈ modM (cutM M (x0.ps ++ [n])) x0.ps (takF x0 n x0.nv x0.kv):=mem_mod.2 ⟨x0,mem_cut.2 ⟨hx,not_pre _ _⟩,if_pos rfl⟩
  have hki:=kidIx_erase hsrt hn
  have hno:n ∉ (takF x0 n x0.nv x0.kv x0).names:=fun hm=>by
   obtain ⟨j,hj,hje⟩:=List.mem_eraseIdx_iff_getElem?.1 hm
   exact hj (hsrt.at hje).symm
  have h2:=h1.put hx1 hno hg (setF x0 n z.b) (fun _=>⟨rfl,rfl,rfl⟩) z hz (by
   show x0.names = insN (x0.names.eraseIdx (kidIx x0.names n)) n
   unfold insN
   rw [hki,List.eraseIdx_eq_take_drop_succ,List.take_left' (by rw [List.length_take];omega),List.drop_left' (by rw [List.length_take];omega)]
   conv=>lhs;rw [← List.take_append_drop (kidIx x0.names n) x0.names,List.drop_eq_getElem_cons hin,hixe]) (by
   show x0.kids.set (kidIx x0.names n) z.b = (x0.kids.eraseIdx (kidIx x0.names n)).take (kidIx (x0.names.eraseIdx (kidIx x0.names n)) n) ++ z.b :: (x0.kids.eraseIdx (kidIx x0.names n)).drop (kidIx (x0.names.eraseIdx (kidIx x0.names n)) n)
   rw [hki,List.eraseIdx_eq_take_drop_succ,List.take_left' (by rw [List.length_take];omega),List.drop_left' (by rw [List.length_take];omega),List.set_eq_take_append_cons_drop,if_pos (by omega)]) e hep hek (by
   refine Nat.le_trans ?_ hfew
   unfold modM cutM
   rw [List.length_map]
   exact List.length_filter_le _ _)
  rw [show (takF x0 n x0.nv x0.kv x0).ps = x0.ps from rfl,mod_mod _ _ (takF x0 n x0.nv x0.kv) (setF x0 n z.b) (fun _=>rfl) (fun _=>rfl)] at h2
  exact h2
end Go.Proofs.YtifhnpkapgaboaaGreat.doc
namespace Go.Proofs.YtifhnpkapgaboaaGreat.doc
open Go Go.RowKit
open heap
open path (sv str_size SRow joinL)
set_option maxRecDepth 100000
theorem Turned_few {S S':List Nat} {w w':World} (h:Turned S w w') (hS:∀ k ∈ S,k ∈ S' ∨ w.heap.size ≤ k):Turned S' w w':=
 ⟨h.os,h.tape,h.output,h.size,fun k hk hn=>h.block k hk fun hm=>by
  rcases hS k hm with e | e
  ·exact hn e
  ·omega⟩
structure NewN (x0:BN) (n:Nm) (z:BN):Prop where
 ps:z.ps = x0.ps ++ [n]
 ns:z.names = []
 ks:z.kids = []
 nv:z.nv = .slice none 0 0
 kv:z.kv = .slice none 0 0
theorem NewN.at {x0:BN} {n:Nm} {z:BN} (h:NewN x0 n z) {w:World} {base:Nat} (hb:base ≤ z.b) (hz:∃ id up,w.heap[z.b]? = some (bO id z.kind z.mode z.data z.nv z.kv up)):NodeAt w base z:=by
 refine ⟨hz,hb,?_,?_⟩
 ·rw [h.nv,h.ns];exact World.ownsRow_nil _ _ _ _
 ·rw [h.kv,h.ks];exact World.ownsRow_nil _ _ _ _
theorem NewN.blks {x0:BN} {n:Nm} {z:BN} (h:NewN x0 n z):doc.blks z = [z.b]:=by
 unfold doc.blks
 rw [h.nv,h.kv];rfl
def Put2 (w0:World) (base t:Nat) (M:DM) (x0:BN) (n:Nm) (z:BN) (e:Ending) (w':World):Prop:=
 e = .returned (.tuple #[]) ∧ ∃ f,PutF x0 n z.b f ∧ TreeP w' base t (modM (cutM M (x0.ps ++ [n])) x0.ps f ++ [z]) ∧ Turned (allB t M) w0 w' ∧ ∀ g ∈ allB t (modM (cutM M (x0.ps ++ [n])) x0.ps f ++ [z]),g ∈ allB t M ∨ w0.heap.size ≤ g
theorem put_step {w0 W:World} {base t:Nat} {M:DM} (h:TreeP w0 base t M) (hM:M.length ≤ 1000000000) {x0:BN} (hx:x0 ∈ M) {n:Nm} {z:BN} (hz:NewN x0 n z) (hzn:w0.heap.size ≤ z.b) (hT:Turned [t,z.b] w0 W)
  (htb:∀ r rest,M = r :: rest → ∃ c fd l i m nx bs,W.heap[t]? = some (.cells #[pV r.b,c,fd,l,i,m,.int .i64 nx,bs] 78 (0,0)))
  (hzb:∃ id up,W.heap[z.b]? = some (bO id z.kind z.mode z.data z.nv z.kv up)) :
  Calls Tryz.prog 61 #[pV x0.b,sv n,pV z.b] W fun e w'=>Put2 w0 base t M x0 n z e w':=by
 obtain ⟨zid,zup,hzb⟩:=hzb
 have hlt:∀ x ∈ M,∀ g ∈ blks x,base ≤ g ∧ g < w0.heap.size:=fun x hxM g hg=>(h.node x hxM).lt hg
 have htl:=h.lt (mem_allB.2 (.inl rfl))
 have hoff:∀ x ∈ M,∀ g ∈ blks x,g ∉ [t,z.b]:=fun x hxM g hg hm=>by
  have:=(hlt x hxM g hg).2
  rcases List.mem_cons.1 hm with e | e
  ·exact (h.one x hxM).2 (e ▸ hg)
  ·rw [List.mem_singleton.1 e] at this;omega
 have hN:NodeAt W base x0:=(h.node x0 hx).turned hT (hoff x0 hx)
 have hlen:=h.wf.len x0 hx
 have hsz:=Nat.le_trans (h.wf.wide hx) hM
 have hne:z.b ∉ blks x0:=fun e=>by have:=(hlt x0 hx _ e).2;omega
 have hzb0:base ≤ z.b:=by omega
 have htz:t ≠ z.b:=by omega
 have hsize:=hT.size
 by_cases hn:n ∈ x0.names
 ·obtain ⟨hi,y,hy,hyp,hk⟩:=h.wf.ixs hx hn
  obtain ⟨yid,yup,hyb⟩:=(h.node y hy).blk
  have hyx:x0.ps ≠ y.ps:=fun e=>not_pre x0.ps n (by rw [← hyp,← e];exact List.prefix_refl _)
  have hyn:y.b ∉ blks x0:=fun e=>h.two x0 hx y hy hyx _ e (mem_blks.2 (.inl rfl))
  have hyl:=(hlt y hy y.b (mem_blks.2 (.inl rfl))).2
  refine (put_old base x0 n z.b y.b zid z.kind z.mode z.data z.nv z.kv zup yid y.kind y.mode y.data y.nv y.kv yup W hN hi hk hlen hsz hzb hne (h.one x0 hx).1 (hT.kept hyb (hoff y hy _ (mem_blks.2 (.inl rfl)))) hyn (by omega)).mono ?_
  rintro e w' ⟨he,h1,⟨up',h2⟩,h3⟩
  refine ⟨he,setF x0 n z.b,⟨fun _=>⟨rfl,rfl,rfl⟩,.inr ⟨hn,rfl⟩⟩,?_⟩
  have hTT:Turned (t :: z.b :: y.b :: blks x0) w0 w':=(hT.mono (by simp)).trans (h3.mono fun k hk=>List.mem_cons_of_mem _ hk)
  have hwf:=h.wf.putF hx (f:=setF x0 n z.b) ⟨fun _=>⟨rfl,rfl,rfl⟩,.inr ⟨hn,rfl⟩⟩ ⟨hz.ps,hz.ns,hz.ks⟩
  have hA:=h.alter hTT hx n (setF x0 n z.b) [z] (fun _=>⟨rfl,rfl,rfl⟩) hwf ?_ ?_ h1 (h.one x0 hx).1 (fun g hg=>.inl hg) ?_
  ·refine ⟨hA.1,Turned_few hTT ?_,hA.2⟩
   intro g hg
   rcases List.mem_cons.1 hg with rfl | hg
   ·exact .inl (mem_allB.2 (.inl rfl))
   rcases List.mem_cons.1 hg with rfl | hg
   ·exact .inr hzn
   rcases List.mem_cons.1 hg with rfl | hg
   ·exact .inl (mem_allB.2 (.inr ⟨y,hy,mem_blks.2 (.inl rfl)⟩))
   ·exact .inl (mem_allB.2 (.inr ⟨x0,hx,hg⟩))
  ·intro r rest hMr
   obtain ⟨c,fd,l,i,m,nx,bs,hb⟩:=htb r rest hMr
   refine ⟨c,fd,l,i,m,nx,bs,h3.kept hb ?_⟩
   intro hm
   rcases List.mem_cons.1 hm with e | hm
   ·exact htz e
   rcases List.mem_cons.1 hm with e | hm
   ·exact (h.one y hy).2 (mem_blks.2 (.inl e))
   ·exact (h.one x0 hx).2 hm
  ·intro g hg
   rcases List.mem_cons.1 hg with rfl | hg
   ·exact .inl rfl
   rcases List.mem_cons.1 hg with rfl | hg
   ·exact .inr (.inr (.inl hzn))
   rcases List.mem_cons.1 hg with rfl | hg
   ·exact .inr (.inr (.inr ⟨y,hy,hyp,mem_blks.2 (.inl rfl)⟩))
   ·exact .inr (.inl hg)
  ·intro z' hz'
   rw [List.mem_singleton.1 hz']
   refine ⟨hz.ps,hz.at hzb0 ⟨_,_,h2⟩,by rw [hz.blks];simp,fun g hg => ?_⟩
   rw [hz.blks,List.mem_singleton] at hg
   rw [hg]
   exact ⟨hzn,hne⟩
 ·have hno:x0.names[kidIx x0.names n]? ≠ some n:=fun e=>hn (((h.wf.srt x0 hx).mem n).2 e)
  refine (put_new base x0 n z.b zid z.kind z.mode z.data z.nv z.kv zup W hN hno hlen hsz hzb hne (h.one x0 hx).1 (by omega)).mono ?_
  rintro e w' ⟨he,nv,kv,h1,h2,h3,h4,⟨up',h5⟩,h6⟩
  have hp:PutF x0 n z.b (fun x => { x with names:=insN x0.names n,kids:=x0.kids.take (kidIx x0.names n) ++ z.b :: x0.kids.drop (kidIx x0.names n),nv:=nv,kv:=kv }):=⟨fun _=>⟨rfl,rfl,rfl⟩,.inl ⟨hn,rfl,rfl⟩⟩
  refine ⟨he,_,hp,?_⟩
  have hTT:Turned (t :: z.b :: blks x0) w0 w':=(hT.mono (by simp)).trans (h6.mono fun k hk=>List.mem_cons_of_mem _ hk)
  have hwf:=h.wf.putF hx hp ⟨hz.ps,hz.ns,hz.ks⟩
  have hzW:=blk_lt hzb
  have hA:=h.alter hTT hx n _ [z] hp.hf hwf ?_ ?_ h1 ?_ ?_ ?_
  ·refine ⟨hA.1,Turned_few hTT ?_,hA.2⟩
   intro g hg
   rcases List.mem_cons.1 hg with rfl | hg
   ·exact .inl (mem_allB.2 (.inl rfl))
   rcases List.mem_cons.1 hg with rfl | hg
   ·exact .inr hzn
   ·exact .inl (mem_allB.2 (.inr ⟨x0,hx,hg⟩))
  ·intro r rest hMr
   obtain ⟨c,fd,l,i,m,nx,bs,hb⟩:=htb r rest hMr
   refine ⟨c,fd,l,i,m,nx,bs,h6.kept hb ?_⟩
   intro hm
   rcases List.mem_cons.1 hm with e | hm
   ·exact htz e
   ·exact (h.one x0 hx).2 hm
  ·intro g hg
   rcases List.mem_cons.1 hg with rfl | hg
   ·exact .inl rfl
   rcases List.mem_cons.1 hg with rfl | hg
   ·exact .inr (.inr (.inl hzn))
   ·exact .inr (.inl hg)
  ·show (x0.b :: (nv.ownBlock.toList ++ kv.ownBlock.toList)).Nodup
   have h0:=(h.one x0 hx).1
   have hxl:=(hlt x0 hx x0.b (mem_blks.2 (.inl rfl))).2
   have hxn:∀ a,nv.ownBlock = some a → x0.b ≠ a:=fun a ha e=>by
    rcases h2 a ha with k | k
    ·unfold blks at h0
     rw [List.nodup_cons,k] at h0
     exact h0.1 (by simp [e])
    ·omega
   have hxk:∀ a,kv.ownBlock = some a → x0.b ≠ a:=fun a ha e=>by
    rcases h3 a ha with k | k
    ·unfold blks at h0
     rw [List.nodup_cons,k] at h0
     exact h0.1 (by simp [e])
    ·omega
   cases e1:nv.ownBlock with
   | none =>
    cases e2:kv.ownBlock with
    | none=>simp
    | some b=>have:=hxk b e2;simp;exact this
   | some a =>
    cases e2:kv.ownBlock with
    | none=>have:=hxn a e1;simp;exact this
    | some b =>
     have u3:a ≠ b:=fun e=>h4 a e1 (by rw [e2,e])
     simp only [Option.toList_some,List.singleton_append,List.nodup_cons,List.mem_cons,List.not_mem_nil,or_false,not_or,List.nodup_nil,not_false_eq_true,and_true]
     exact ⟨⟨hxn a e1,hxk b e2⟩,u3⟩
  ·intro g hg
   rcases mem_blks.1 hg with e | e | e
   ·exact .inl (mem_blks.2 (.inl e))
   ·rcases h2 g e with k | k
    ·exact .inl (mem_blks.2 (.inr (.inl k)))
    ·exact .inr (by omega)
   ·rcases h3 g e with k | k
    ·exact .inl (mem_blks.2 (.inr (.inr k)))
    ·exact .inr (by omega)
  ·intro z' hz'
   rw [List.mem_singleton.1 hz']
   refine ⟨hz.ps,hz.at hzb0 ⟨_,_,h5⟩,by rw [hz.blks];simp,fun g hg => ?_⟩
   rw [hz.blks,List.mem_singleton] at hg
   rw [hg]
   refine ⟨hzn,fun hm => ?_⟩
   rcases mem_blks.1 hm with e | e | e
   ·have e:z.b = x0.b:=e
    exact hne (mem_blks.2 (.inl e))
   ·rcases h2 _ e with k | k
    ·exact hne (mem_blks.2 (.inr (.inl k)))
    ·omega
   ·rcases h3 _ e with k | k
    ·exact hne (mem_blks.2 (.inr (.inr k)))
    ·omega
def ZAt (w:World) (z:BN):Prop:=∃ id up,w.heap[z.b]? = some (bO id z.kind z.mode z.data z.nv z.kv up)
theorem ZAt.below {w w':World} {z:BN} (h:ZAt w z) (hb:Below w.heap.size w w'):ZAt w' z:=by
 obtain ⟨id,up,hz⟩:=h
 exact ⟨id,up,(hb.block _ (blk_lt hz)).trans hz⟩
def TbAt (w:World) (t:Nat) (M:DM):Prop:=∀ r rest,M = r :: rest → ∃ c fd l i m nx bs,w.heap[t]? = some (.cells #[pV r.b,c,fd,l,i,m,.int .i64 nx,bs] 78 (0,0))
set_option maxHeartbeats 1000000 in
theorem Place_any {w0 w:World} {base t:Nat} {M:DM} (h:TreeP w0 base t M) (hb:Below w0.heap.size w0 w) (hM:M.length ≤ 1000000000) {x0:BN} (hx:x0 ∈ M) {n:Nm} {z:BN} (hz:NewN x0 n z) (hzn:w0.heap.size ≤ z.b)
  (hg:Good (x0.ps ++ [n])) (hl:(joinL (x0.ps ++ [n])).length ≤ 2000000) (hzb:ZAt w z) :
  Calls Tryz.prog 75 #[pV t,sv (joinL (x0.ps ++ [n])),pV z.b] w fun e w'=>Put2 w0 base t M x0 n z e w':=by
 have HS:=Lib.hid (fun W:World=>Split_join x0.ps n hg W hl)
 have HF:Hid (∀ W:World,Below w0.heap.size w0 W → Calls Tryz.prog 25 #[pV t,sv (joinL x0.ps)] W fun e w'=>e = .returned (pV x0.b) ∧ Below W.heap.size W w'):=fun W k=>Find_at hx hg.left W (h.below k) hM (Nat.le_trans (join_len _ _) hl)
 have HU:Hid (∀ W:World,Below w0.heap.size w0 W → ZAt W z → Calls Tryz.prog 62 #[pV t,pV z.b] W fun e w'=>e = .returned (pV z.b) ∧ Turned [t,z.b] w0 w' ∧ TbAt w' t M ∧ ZAt w' z):=by
  intro W k kz
  obtain ⟨r,rest,c,f,l,i,m,nx,bs,hMr,htb⟩:=(h.below k).tb
  obtain ⟨id,up,kz⟩:=kz
  have htl:=(h.lt (mem_allB.2 (.inl rfl))).2
  refine (numbered_any t z base r.b c f l i m bs nx W htb id up kz (by omega)).mono ?_
  rintro e w' ⟨h1,⟨nx',h2⟩,⟨id',h3⟩,h4⟩
  refine ⟨h1,(Turned.of_below k).trans h4,fun r' rest' hM' => ?_,⟨id',up,h3⟩⟩
  rw [hMr,List.cons.injEq] at hM'
  rw [← hM'.1]
  exact ⟨c,f,l,i,m,nx',bs,h2⟩
 have HP:Hid (∀ W:World,Turned [t,z.b] w0 W → TbAt W t M → ZAt W z → Calls Tryz.prog 61 #[pV x0.b,sv n,pV z.b] W fun e w'=>Put2 w0 base t M x0 n z e w'):=fun W k1 k2 k3=>put_step h hM hx hz hzn k1 k2 k3
 have HB:=Lib.hid hb
 have HZ:=Lib.hid hzb
 clear h hM hx hg hl hb hzb hz hzn
 unfold Put2 at *
 generalize joinL (x0.ps ++ [n]) = s at *
 generalize joinL x0.ps = u at *
 generalize hzz:z.b = zb at *
 go_enter Tryz.func75,Tryz.ntmps75
 go_wp2_with fail
 (with_reducible refine (HS.out _).mono ?_);rintro e w1 ⟨rfl,hb1⟩
 have HB1:Hid (Below w0.heap.size w0 w1):=HB.out.trans (hb1.mono HB.out.size)
 have HZ1:Hid (ZAt w1 z):=HZ.out.below hb1
 clear hb1
 go_wp2_with fail
 (with_reducible refine (HF.out _ HB1.out).mono ?_);rintro e w2 ⟨rfl,hb2⟩
 have HB2:Hid (Below w0.heap.size w0 w2):=HB1.out.trans (hb2.mono HB1.out.size)
 have HZ2:Hid (ZAt w2 z):=HZ1.out.below hb2
 clear hb2
 go_wp2_with fail
 (with_reducible refine (HU.out _ HB2.out HZ2.out).mono ?_);rintro e w3 ⟨rfl,k1,k2,k3⟩
 have HP3:=Lib.hid (HP.out w3 k1 k2 k3)
 clear k1 k2 k3
 go_wp2_with fail
 (with_reducible refine HP3.out.mono ?_);rintro e w4 ⟨rfl,HE⟩
 have HE:=Lib.hid HE
 go_wp2_with fail
 go_end0
 exact ⟨rfl,HE.out⟩
end Go.Proofs.YtifhnpkapgaboaaGreat.doc
