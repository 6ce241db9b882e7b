/-
  Proved: what keeps the block of the program's parser, its locals, the trees that it holds. Conditions: as each theorem says.
  Proved: a word between blanks occurs in a row of words between blanks just where it is one of them (plain). Conditions: as each theorem says. No program is in sight.
  Proved: what the small methods of the program's parser do (now, is, bad, sign, word, must, next, kind, reserved). Conditions: as each theorem says.
  Proved: what called and begins of the program's parser tell. Conditions: as each theorem says.
  Proved: what begins of the program's parser tells. Conditions: as the theorem says.
  Proved: what deeper of the program's parser leaves. Conditions: as the theorem says.
  Proved: plain facts on the document's parser where nothing begins; what changes the depth alone changes no fault. Conditions: as each theorem says. No program is in sight.
  Proved: what in, blocked of the program's parser leave. Conditions: as each theorem says.
-/
import Derived.Test.YtmfpmandkhiknaaGreatDoorPu6
import Derived.Test.YtmfpmandkhiknaaGreatDoorPu9
import Derived.Lib.IndexMore
import Derived.BigQuiet
set_option linter.unusedVariables false
set_option linter.unusedSimpArgs false
namespace Go.Proofs.YtmfpmandkhiknaaGreatDoor.qar
open par
open Go.RowKit
open heap
open lex (Tk TRow TkAt run_store_float add0)
set_option maxRecDepth 100000
def pts (E:PE):List Tk:=if E.lex = 0 then E.ts else E.ts ++ [⟨0,[],0,E.lat.toNat⟩]
abbrev pO (v:Value) (E:PE) (s:PS):Obj:=.cells #[v,.int .i64 (s.i:Nat),.int .i64 E.lex,.int .i64 s.deep] 133 (0,0)
structure PAt (w:World) (p:Nat) (v:Value) (E:PE) (s:PS):Prop where
 blk:w.heap[p]? = some (pO v E s)
 row:TRow w 0 v (pts E)
 len:(pts E).length ≤ 100000
 le:s.i < (pts E).length
 lat:0 ≤ E.lat
 ok:EOk E
 c0:s.code = 0
 mx:∃ m:Int,w.cell? ⟨1,0,none⟩ = some (.int .i64 m)
theorem PAt.lt {w:World} {p:Nat} {v:Value} {E:PE} {s:PS} (h:PAt w p v E s):p < w.heap.size:=blk_lt h.blk
theorem PAt.own {w:World} {p:Nat} {v:Value} {E:PE} {s:PS} (h:PAt w p v E s):p ∉ v.ownBlock.toList:=by
 intro hm
 obtain ⟨_,⟨hv,_⟩ | ⟨g,c,cur,rfl,h3,h4,_⟩⟩:=h.row
 ·rw [hv] at hm;simp [Value.ownBlock] at hm
 ·have hg:p = g:=by simpa [Value.ownBlock] using hm
  subst hg
  rw [h.blk] at h4
  simp at h4
theorem PAt.ne1 {w:World} {p:Nat} {v:Value} {E:PE} {s:PS} (h:PAt w p v E s):p ≠ 1:=by
 rintro rfl
 obtain ⟨m,hm⟩:=h.mx
 have:=blk_cell h.blk 0
 rw [hm] at this
 simp at this
 obtain ⟨a,c,hv⟩:=h.row.slice
 rw [hv] at this
 cases this
theorem PAt.own1 {w:World} {p:Nat} {v:Value} {E:PE} {s:PS} (h:PAt w p v E s):1 < w.heap.size:=by
 obtain ⟨m,hm⟩:=h.mx
 exact World.block_lt_of_cell? w _ hm
theorem PAt.own_lt {w:World} {p:Nat} {v:Value} {E:PE} {s:PS} (h:PAt w p v E s):∀ g ∈ v.ownBlock.toList,g < w.heap.size:=fun g hg=>(World.ownsRow.lt h.row g (by simpa using hg)).2
theorem PAt.below {w w':World} {p:Nat} {v:Value} {E:PE} {s:PS} (h:PAt w p v E s) (hb:Below w.heap.size w w'):PAt w' p v E s:=⟨blk_below h.blk hb,h.row.below hb,h.len,h.le,h.lat,h.ok,h.c0,by obtain ⟨m,hm⟩:=h.mx;exact ⟨m,(Turned.of_below (S := []) hb).cell hm (by simp)⟩⟩
theorem PAt.alloc {w:World} {p:Nat} {v:Value} {E:PE} {s:PS} (h:PAt w p v E s) (o:Obj):PAt (w.alloc o) p v E s:=h.below ((Below.refl _ _).alloc (Nat.le_refl _) _)
theorem PAt.drew {w:World} {p:Nat} {v:Value} {E:PE} {s:PS} (h:PAt w p v E s):PAt w.drew p v E s:=⟨h.blk,h.row,h.len,h.le,h.lat,h.ok,h.c0,h.mx⟩
theorem PAt.kept {w w':World} {p:Nat} {v:Value} {E:PE} {s:PS} (h:PAt w p v E s) {S:List Nat} (ht:Turned S w w') (hp:p ∉ S) (hv:∀ g ∈ v.ownBlock.toList,g ∉ S) (h1:1 ∉ S):PAt w' p v E s:=
 ⟨ht.kept h.blk hp,lex.trow_kept h.row (fun g o hg ho=>ht.kept ho (hv g (by simpa using hg))),h.len,h.le,h.lat,h.ok,h.c0,by obtain ⟨m,hm⟩:=h.mx;exact ⟨m,ht.cell hm h1⟩⟩
theorem PAt.other {w:World} {p:Nat} {v:Value} {E:PE} {s:PS} (h:PAt w p v E s) {b:Nat} (i:Nat) (u:Value) (hp:b ≠ p) (hv:b ∉ v.ownBlock.toList) (hb1:b ≠ 1):PAt (w.setCell ⟨b,i,none⟩ u) p v E s:=
 h.kept (S := [b]) ((Turned.refl _ _).setCell (by simp) _) (by simp; exact fun e => hp e.symm) (fun g hg hm => hv (by have : g = b := by simpa using hm
                                                                                                                      rw [← this];exact hg)) (by simp;exact fun e=>hb1 e.symm)
theorem PAt.set {w:World} {p:Nat} {v:Value} {E:PE} {s s2:PS} (h:PAt w p v E s) (j:Nat) (u:Value) (hj:(#[v,Value.int .i64 (s.i:Nat),.int .i64 E.lex,.int .i64 s.deep]).setIfInBounds j u = #[v,.int .i64 (s2.i:Nat),.int .i64 E.lex,.int .i64 s2.deep])
  (hi:s2.i < (pts E).length) (hc:s2.code = 0):PAt (w.setCell ⟨p,j,none⟩ u) p v E s2:=by
 refine ⟨?_,?_,h.len,hi,h.lat,h.ok,hc,by obtain ⟨m,hm⟩:=h.mx;exact ⟨m,(((Turned.refl [p] w).setCell (p:=⟨p,j,none⟩) (by simp) u).cell hm (by simp;exact fun e=>h.ne1 e.symm))⟩⟩
 ·have:=blk_set h.blk j u
  rw [hj] at this
  exact this
 ·refine lex.trow_kept h.row (fun g o hg ho => ?_)
  have hne:g ≠ p:=fun e=>h.own (by subst e;simpa using hg)
  rw [blk_other hne];exact ho
theorem PAt.inc {w:World} {p:Nat} {v:Value} {E:PE} {s:PS} (h:PAt w p v E s) (hi:s.i + 1 < (pts E).length):PAt (w.setCell ⟨p,1,none⟩ (.int .i64 ((s.i:Int) + 1))) p v E (inc s):=h.set 1 _ rfl hi h.c0
theorem PAt.inc2 {w:World} {p:Nat} {v:Value} {E:PE} {s:PS} (h:PAt w p v E s) (hi:s.i + 2 < (pts E).length):PAt (w.setCell ⟨p,1,none⟩ (.int .i64 ((s.i:Int) + 2))) p v E ⟨s.i + 2,s.code,s.bad,s.deep⟩:=h.set 1 _ rfl hi h.c0
theorem PAt.deep {w:World} {p:Nat} {v:Value} {E:PE} {s:PS} (h:PAt w p v E s) (d:Int):PAt (w.setCell ⟨p,3,none⟩ (.int .i64 d)) p v E { s with deep:=d }:=h.set 3 _ rfl h.le h.c0
theorem PAt.out {w:World} {p:Nat} {v:Value} {E:PE} {s:PS} (h:PAt w p v E s):PAt (w.setCell ⟨p,3,none⟩ (.int .i64 (wrap64 (s.deep - 1)))) p v E (out s):=h.deep _
structure PCell (w:World) (p:Nat) (v:Value) (E:PE) (s:PS):Prop where
 c0:w.cell? ⟨p,0,none⟩ = some v
 c1:w.cell? ⟨p,1,none⟩ = some (.int .i64 (s.i:Nat))
 c2:w.cell? ⟨p,2,none⟩ = some (.int .i64 E.lex)
 c3:w.cell? ⟨p,3,none⟩ = some (.int .i64 s.deep)
 f1:w.frozen? ⟨p,1,none⟩ = false
 f3:w.frozen? ⟨p,3,none⟩ = false
theorem PAt.cells {w:World} {p:Nat} {v:Value} {E:PE} {s:PS} (h:PAt w p v E s):PCell w p v E s:=
 have h1:=h.blk
 ⟨by rw [blk_cell h1];rfl,by rw [blk_cell h1];rfl,by rw [blk_cell h1];rfl,by rw [blk_cell h1];rfl,blk_free h1 _,blk_free h1 _⟩
structure SW (w W:World) (p:Nat) (v:Value) (E:PE) (s:PS) (L:List (Nat × Obj)) (K:List Tr):Prop where
 P:PAt W p v E s
 T:Turned [p] w W
 plt:p < w.heap.size
 one:1 < w.heap.size
 own:∀ g ∈ v.ownBlock.toList,g < w.heap.size
 loc:∀ l ∈ L,w.heap.size ≤ l.1 ∧ W.heap[l.1]? = some l.2
 trees:∀ k ∈ K,k.ok W ∧ ∀ b ∈ k.S,w.heap.size ≤ b
 ndl:L.Pairwise (fun a b=>a.1 ≠ b.1)
 dis:∀ l ∈ L,∀ k ∈ K,l.1 ∉ k.S
 ndk:K.Pairwise (fun a b=>∀ x ∈ a.S,x ∉ b.S)
section
variable {w W:World} {p:Nat} {v:Value} {E:PE} {s:PS} {L:List (Nat × Obj)} {K:List Tr}
theorem SW.start (h:PAt w p v E s):SW w w p v E s [] []:=
 ⟨h,Turned.refl _ _,h.lt,h.own1,h.own_lt,by simp,by simp,.nil,by simp,.nil⟩
theorem SW.alloc (h:SW w W p v E s L K) (o:Obj):SW w (W.alloc o) p v E s ((W.heap.size,o) :: L) K:=by
 have hb:Below W.heap.size W (W.alloc o):=(Below.refl _ _).alloc (Nat.le_refl _) _
 refine ⟨h.P.alloc o,h.T.alloc o,h.plt,h.one,h.own,fun l hl => ?_,fun k hk=>⟨(h.trees k hk).1.turned (R := []) (Turned.of_below hb) (by simp),(h.trees k hk).2⟩,.cons (fun l hl => ?_) h.ndl,fun l hl k hk => ?_,h.ndk⟩
 ·rcases List.mem_cons.1 hl with rfl | hl
  ·exact ⟨h.T.size,blk_new _ _⟩
  ·exact ⟨(h.loc l hl).1,blk_old (h.loc l hl).2 _⟩
 ·have:=blk_lt (h.loc l hl).2
  exact fun e=>by simp only at e;omega
 ·rcases List.mem_cons.1 hl with rfl | hl
  ·intro hm
   have:=(h.trees k hk).1.lt _ hm
   simp only at this;omega
  ·exact h.dis l hl k hk
theorem SW.drew (h:SW w W p v E s L K):SW w W.drew p v E s L K:=
 ⟨h.P.drew,h.T.drew,h.plt,h.one,h.own,h.loc,fun k hk=>⟨(h.trees k hk).1.turned (R := []) (w':=W.drew) ((Turned.refl _ _).drew) (by simp),(h.trees k hk).2⟩,h.ndl,h.dis,h.ndk⟩
theorem SW.drewN (h:SW w W p v E s L K) (n:Nat):SW w (W.drewN n) p v E s L K:=by
 have hb:Below W.heap.size W (W.drewN n):=par.below_drewN (Below.refl _ _) n
 exact ⟨h.P.below hb,h.T.trans (Turned.of_below hb),h.plt,h.one,h.own,fun l hl=>⟨(h.loc l hl).1,blk_below (h.loc l hl).2 hb⟩,fun k hk=>⟨(h.trees k hk).1.turned (R := []) (Turned.of_below hb) (by simp),(h.trees k hk).2⟩,h.ndl,h.dis,h.ndk⟩
theorem SW.call {W':World} {s':PS} (h:SW w W p v E s L K) (hP:PAt W' p v E s') (hT:Turned [p] W W'):SW w W' p v E s' L K:=
 ⟨hP,h.T.trans hT,h.plt,h.one,h.own,fun l hl=>⟨(h.loc l hl).1,hT.kept (h.loc l hl).2 (fun hm=>by have:=(h.loc l hl).1;have:=h.plt;simp at hm;omega)⟩,
  fun k hk=>⟨(h.trees k hk).1.turned hT (fun b hb hm=>by have:=(h.trees k hk).2 b hb;have:=h.plt;simp at hm;omega),(h.trees k hk).2⟩,h.ndl,h.dis,h.ndk⟩
theorem SW.callT {W':World} {s':PS} {k:Tr} (h:SW w W p v E s L K) (hk:k.ok W') (hS:∀ b ∈ k.S,W.heap.size ≤ b) (hP:PAt W' p v E s') (hT:Turned [p] W W'):SW w W' p v E s' L (k :: K):=by
 have h':=h.call hP hT
 refine ⟨h'.P,h'.T,h'.plt,h'.one,h'.own,h'.loc,fun q hq => ?_,h'.ndl,fun l hl q hq => ?_,.cons (fun q hq x hx hx2 => ?_) h'.ndk⟩
 ·rcases List.mem_cons.1 hq with rfl | hq
  ·exact ⟨hk,fun b hb=>Nat.le_trans h.T.size (hS b hb)⟩
  ·exact h'.trees q hq
 ·rcases List.mem_cons.1 hq with rfl | hq
  ·intro hm
   have:=hS _ hm
   have:=blk_lt (h.loc l hl).2
   omega
  ·exact h'.dis l hl q hq
 ·have:=hS x hx
  have:=(h.trees q hq).1.lt x hx2
  omega
theorem SW.setP {s':PS} {j:Nat} {u:Value} (h:SW w W p v E s L K) (hP:PAt (W.setCell ⟨p,j,none⟩ u) p v E s'):SW w (W.setCell ⟨p,j,none⟩ u) p v E s' L K:=
 h.call hP ((Turned.refl _ _).setCell (by simp) _)
theorem SW.inc (h:SW w W p v E s L K) (hi:s.i + 1 < (pts E).length):SW w (W.setCell ⟨p,1,none⟩ (.int .i64 ((s.i:Int) + 1))) p v E (inc s) L K:=h.setP (h.P.inc hi)
theorem SW.inc2 (h:SW w W p v E s L K) (hi:s.i + 2 < (pts E).length):SW w (W.setCell ⟨p,1,none⟩ (.int .i64 ((s.i:Int) + 2))) p v E ⟨s.i + 2,s.code,s.bad,s.deep⟩ L K:=h.setP (h.P.inc2 hi)
theorem SW.out (h:SW w W p v E s L K):SW w (W.setCell ⟨p,3,none⟩ (.int .i64 (wrap64 (s.deep - 1)))) p v E (out s) L K:=h.setP h.P.out
theorem SW.mem (h:SW w W p v E s L K) {n:Nat} {b:Nat} {o:Obj} (hn:L[n]? = some (b,o)):w.heap.size ≤ b ∧ W.heap[b]? = some o:=h.loc _ (List.mem_of_getElem? hn)
theorem SW.lt (h:SW w W p v E s L K) {n:Nat} {b:Nat} {o:Obj} (hn:L[n]? = some (b,o)):b < W.heap.size:=blk_lt (h.mem hn).2
theorem SW.cell (h:SW w W p v E s L K) (n:Nat) {b:Nat} {cs:Array Value} {t:TypeId} {fr:Nat × Nat} (hn:L[n]? = some (b,.cells cs t fr)) (i:Nat):W.cell? ⟨b,i,none⟩ = cs[i]?:=blk_cell (h.mem hn).2 i
theorem SW.free (h:SW w W p v E s L K) (n:Nat) {b:Nat} {cs:Array Value} {t:TypeId} (hn:L[n]? = some (b,.cells cs t (0,0))) (i:Nat):W.frozen? ⟨b,i,none⟩ = false:=blk_free (h.mem hn).2 i
theorem SW.ne (h:SW w W p v E s L K) (n:Nat) {b:Nat} {o:Obj} (hn:L[n]? = some (b,o)):b ≠ p ∧ p ≠ b:=by
 have:=(h.mem hn).1
 have:=h.plt
 omega
theorem SW.c4 (h:SW w W p v E s L K) (n:Nat) {b:Nat} {u0 u1 u2 u3:Value} {t:TypeId} (hn:L[n]? = some (b,.cells #[u0,u1,u2,u3] t (0,0))):C4 W b u0 u1 u2 u3:=
 ⟨h.cell n hn 0,h.cell n hn 1,h.cell n hn 2,h.cell n hn 3,h.free n hn 0,h.free n hn 1,h.free n hn 2,h.free n hn 3,h.lt hn⟩
theorem SW.c5 (h:SW w W p v E s L K) (n:Nat) {b:Nat} {u0 u1 u2 u3 u4:Value} {t:TypeId} (hn:L[n]? = some (b,.cells #[u0,u1,u2,u3,u4] t (0,0))):C5 W b u0 u1 u2 u3 u4:=
 ⟨h.cell n hn 0,h.cell n hn 1,h.cell n hn 2,h.cell n hn 3,h.cell n hn 4,h.free n hn 0,h.free n hn 1,h.free n hn 2,h.free n hn 3,h.free n hn 4,h.lt hn⟩
theorem SW.setL (h:SW w W p v E s L K) (n:Nat) {b:Nat} {cs:Array Value} {t:TypeId} {fr:Nat × Nat} (hn:L[n]? = some (b,.cells cs t fr)) (i:Nat) (u:Value):SW w (W.setCell ⟨b,i,none⟩ u) p v E s (L.set n (b,.cells (cs.setIfInBounds i u) t fr)) K:=by
 obtain ⟨hb,ho⟩:=h.mem hn
 have hnp:b ≠ p:=by have:=h.plt;omega
 have hno:b ∉ v.ownBlock.toList:=fun hm=>by have:=h.own b hm;omega
 have ht:Turned [b] W (W.setCell ⟨b,i,none⟩ u):=(Turned.refl _ _).setCell (by simp) _
 have hnl:n < L.length:=(List.getElem?_eq_some_iff.1 hn).1
 refine ⟨h.P.other i u hnp hno (by have:=h.one;omega),⟨h.T.os,h.T.tape,h.T.output,Nat.le_trans h.T.size ht.size,fun k hk hn=>(ht.block k (Nat.lt_of_lt_of_le hk h.T.size) (by simp;omega)).trans (h.T.block k hk hn)⟩,h.plt,h.one,h.own,fun l hl => ?_,fun k hk=>⟨(h.trees k hk).1.turned ht (fun x hx hm => ?_),(h.trees k hk).2⟩,?_,fun l hl k hk => ?_,h.ndk⟩
 ·obtain ⟨j,hj,rfl⟩:=List.getElem_of_mem hl
  rw [List.length_set] at hj
  rw [List.getElem_set]
  by_cases e:n = j
  ·rw [if_pos e]
   exact ⟨hb,blk_set ho i u⟩
  ·rw [if_neg e]
   refine ⟨(h.loc _ (List.getElem_mem hj)).1,?_⟩
   refine ht.kept (h.loc _ (List.getElem_mem hj)).2 (fun hm => ?_)
   have e2:L[j].1 = b:=by simpa using hm
   have hnd:=List.pairwise_iff_getElem.1 h.ndl
   have hLn:L[n] = (b,.cells cs t fr):=by
    have:=List.getElem?_eq_getElem hnl
    rw [hn] at this
    exact (Option.some.inj this).symm
   rcases Nat.lt_or_gt_of_ne e with hlt | hlt
   ·exact hnd n j hnl hj hlt (by rw [hLn,e2])
   ·exact hnd j n hj hnl hlt (by rw [hLn,e2])
 ·have:x = b:=by simpa using hm
  subst this
  exact h.dis _ (List.mem_of_getElem? hn) k hk hx
 ·have hLn:L[n] = (b,.cells cs t fr):=by
   have:=List.getElem?_eq_getElem hnl
   rw [hn] at this
   exact (Option.some.inj this).symm
  have hnd:=List.pairwise_iff_getElem.1 h.ndl
  rw [List.pairwise_iff_getElem]
  intro a c ha hc hac
  have key:∀ j (hj:j < (L.set n (b,.cells (cs.setIfInBounds i u) t fr)).length),(L.set n (b,.cells (cs.setIfInBounds i u) t fr))[j].1 = (L[j]'(by rw [List.length_set] at hj;exact hj)).1:=by
   intro j hj
   rw [List.getElem_set]
   split
   ·rename_i e
    subst e
    rw [hLn]
   ·rfl
  rw [key a ha,key c hc]
  exact hnd a c (by rw [List.length_set] at ha;exact ha) (by rw [List.length_set] at hc;exact hc) hac
 ·rcases List.mem_or_eq_of_mem_set hl with hl | rfl
  ·exact h.dis l hl k hk
  ·exact h.dis _ (List.mem_of_getElem? hn) k hk
theorem SW.set4 (h:SW w W p v E s L K) (n:Nat) {b:Nat} {u0 u1 u2 u3:Value} {t:TypeId} (hn:L[n]? = some (b,.cells #[u0,u1,u2,u3] t (0,0))) (x0 x1 x2 x3:Value) :
  SW w ((((W.setCell ⟨b,0,none⟩ x0).setCell ⟨b,1,none⟩ x1).setCell ⟨b,2,none⟩ x2).setCell ⟨b,3,none⟩ x3) p v E s (L.set n (b,.cells #[x0,x1,x2,x3] t (0,0))) K:=by
 have hl:n < L.length:=(List.getElem?_eq_some_iff.1 hn).1
 have h1:=h.setL n hn 0 x0
 have h2:=h1.setL n (by rw [List.getElem?_set_self hl]) 1 x1
 rw [List.set_set] at h2
 have h3:=h2.setL n (by rw [List.getElem?_set_self hl]) 2 x2
 rw [List.set_set] at h3
 have h4:=h3.setL n (by rw [List.getElem?_set_self hl]) 3 x3
 rw [List.set_set] at h4
 exact h4
theorem SW.set5 (h:SW w W p v E s L K) (n:Nat) {b:Nat} {u0 u1 u2 u3 u4:Value} {t:TypeId} (hn:L[n]? = some (b,.cells #[u0,u1,u2,u3,u4] t (0,0))) (x0 x1 x2 x3 x4:Value) :
  SW w (((((W.setCell ⟨b,0,none⟩ x0).setCell ⟨b,1,none⟩ x1).setCell ⟨b,2,none⟩ x2).setCell ⟨b,3,none⟩ x3).setCell ⟨b,4,none⟩ x4) p v E s (L.set n (b,.cells #[x0,x1,x2,x3,x4] t (0,0))) K:=by
 have hl:n < L.length:=(List.getElem?_eq_some_iff.1 hn).1
 have h1:=h.setL n hn 0 x0
 have h2:=h1.setL n (by rw [List.getElem?_set_self hl]) 1 x1
 rw [List.set_set] at h2
 have h3:=h2.setL n (by rw [List.getElem?_set_self hl]) 2 x2
 rw [List.set_set] at h3
 have h4:=h3.setL n (by rw [List.getElem?_set_self hl]) 3 x3
 rw [List.set_set] at h4
 have h5:=h4.setL n (by rw [List.getElem?_set_self hl]) 4 x4
 rw [List.set_set] at h5
 exact h5
theorem SW.drop (h:SW w W p v E s L K) (L':List (Nat × Obj)) (hs:L'.Sublist L):SW w W p v E s L' K:=
 ⟨h.P,h.T,h.plt,h.one,h.own,fun l hl=>h.loc l (hs.subset hl),h.trees,h.ndl.sublist hs,fun l hl=>h.dis l (hs.subset hl),h.ndk⟩
end
def NodeO (p:Nat) (v:Value) (E:PE) (s2:PS) (x:Nd) (w:World) (e:Ending) (w':World):Prop:=
 ∃ (a:Option Addr) (n:Nat) (S:List Nat),e = .returned (ndV x (.slice a x.kids.length n)) ∧ (Tr.mk x.kids (.slice a x.kids.length n) S).ok w' ∧ (∀ b ∈ S,w.heap.size ≤ b) ∧ PAt w' p v E s2 ∧ Turned [p] w w'
theorem SW.node {w W:World} {p:Nat} {v:Value} {E:PE} {s:PS} {L:List (Nat × Obj)} {K:List Tr} {k:Tr} (h:SW w W p v E s L K) (hk:k ∈ K) (x:Nd) (hx:x.kids = k.ks):NodeO p v E s x w (.returned (ndV x k.v)) W:=by
 obtain ⟨a,n,hv⟩:=(h.trees k hk).1.slice
 have e:Tr.mk x.kids (.slice a x.kids.length n) k.S = k:=by rw [hx,← hv]
 refine ⟨a,n,k.S,?_,?_,(h.trees k hk).2,h.P,h.T⟩
 ·rw [hv,hx]
 ·rw [e];exact (h.trees k hk).1
theorem SW.leaf {w W:World} {p:Nat} {v:Value} {E:PE} {s:PS} {L:List (Nat × Obj)} {K:List Tr} (h:SW w W p v E s L K) (x:Nd) (hx:x.kids = []):NodeO p v E s x w (.returned (ndV x (.slice none 0 0))) W:=
 ⟨none,0,[],by rw [hx];rfl,by rw [hx];exact Tr.nil W,by simp,h.P,h.T⟩
abbrev wrongV (a c:Int):Value:=.iface 127 (.agg #[.int .i64 a,.int .i64 c])
def Thr (p:Nat) (s2:PS) (w:World) (e:Ending) (w':World):Prop:=e = .panicked [{ v:=wrongV s2.bad s2.code,recovered:=false }] ∧ Turned [p] w w'
def NodeR (p:Nat) (v:Value) (E:PE) (i:Nat) (s2:PS) (x:Nd) (w:World) (e:Ending) (w':World):Prop:=(∃ t,(t = s2 ∨ sT E t = s2) ∧ i < t.i ∧ NodeO p v E t x w e w') ∨ (s2.code ≠ 0 ∧ Thr p s2 w e w')
theorem pts_ts {E:PE} {i:Nat} (h:i < E.ts.length):(pts E)[i]? = E.ts[i]?:=by
 unfold pts
 split
 ·rfl
 ·rw [List.getElem?_append_left h]
theorem pts_len (E:PE):(pts E).length = if E.lex = 0 then E.ts.length else E.ts.length + 1:=by
 unfold pts
 split <;> simp
theorem PAt.tok {w:World} {p:Nat} {v:Value} {E:PE} {s:PS} (h:PAt w p v E s):∃ t,(pts E)[s.i]? = some t ∧ tnOf t = pn E s:=by
 obtain ⟨t,ht⟩:∃ t,(pts E)[s.i]? = some t:=⟨_,List.getElem?_eq_getElem h.le⟩
 refine ⟨t,ht,?_⟩
 unfold pn
 by_cases hi:s.i < E.ts.length
 ·rw [pts_ts hi] at ht
  rw [ht]
 ·have hl:=h.le
  have hp:=pts_len E
  by_cases h0:E.lex = 0
  ·rw [if_pos h0] at hp;omega
  ·rw [if_neg h0] at hp
   rw [List.getElem?_eq_none (by omega)]
   have hs:s.i = E.ts.length:=by omega
   unfold pts at ht
   rw [if_neg h0,hs,List.getElem?_append_right (Nat.le_refl _)] at ht
   simp at ht
   subst ht
   show (⟨0,[],0,((E.lat.toNat:Nat):Int)⟩:Tn) = ⟨0,[],0,E.lat⟩
   rw [Int.toNat_of_nonneg h.lat]
theorem PAt.more {w:World} {p:Nat} {v:Value} {E:PE} {s:PS} (h:PAt w p v E s) (hk:(pn E s).kind ≠ 0):s.i < E.ts.length ∧ s.i + 1 < (pts E).length ∧ sT E s = s ∧ tk E s = pn E s:=by
 have hk2:(tk E s).kind ≠ 0:=by rw [← (par.pn_kt h.c0).1];exact hk
 obtain ⟨h1,h2,h3⟩:=par.pn_tk h.c0 hk2
 refine ⟨h3,?_,h2,h1.symm⟩
 have hp:=pts_len E
 by_cases h0:E.lex = 0
 ·rw [if_pos h0] at hp
  obtain ⟨ts,t,he,ht⟩:=h.ok.good h0
  have hlen:=congrArg List.length he
  simp at hlen
  rcases Nat.lt_or_ge (s.i + 1) E.ts.length with h4 | h4
  ·omega
  ·exfalso
   have hs:s.i = ts.length:=by omega
   apply hk
   unfold pn
   rw [he,hs,List.getElem?_append_right (Nat.le_refl _)]
   simp [tnOf,ht]
 ·rw [if_neg h0] at hp;omega
theorem PAt.lexOr {w:World} {p:Nat} {v:Value} {E:PE} {s:PS} (h:PAt w p v E s):s.i < E.ts.length ∨ E.lex ≠ 0:=by
 have hp:=pts_len E
 have hl:=h.le
 by_cases h0:E.lex = 0
 ·rw [if_pos h0] at hp;left;omega
 ·exact .inr h0
end Go.Proofs.YtmfpmandkhiknaaGreatDoor.qar
namespace Go.Proofs.YtmfpmandkhiknaaGreatDoor.con
open Go Go.RowKit
def wds:List UInt8 → List (List UInt8)
 | [] => []
 | c :: r=>if c = 32 ∧ r.contains 32 = true then r.takeWhile (fun x => !(x == 32)) :: wds r else wds r
theorem pre_word:∀ (t l:List UInt8),(32:UInt8) ∉ t → ((t ++ [32]).isPrefixOf l = true ↔ l.contains 32 = true ∧ t = l.takeWhile (fun x => !(x == 32)))
 | [],[],_=>by simp
 | [],c :: l,_=>by
  by_cases h:c = 32
  ·subst h;simp
  ·have h1:((32:UInt8) == c) = false:=by rw [beq_eq_false_iff_ne];exact fun e=>h e.symm
   have h2:(c == (32:UInt8)) = false:=by rw [beq_eq_false_iff_ne];exact h
   simp [List.isPrefixOf,h1,h2]
 | a :: t,[],_=>by simp
 | a :: t,c :: l,ht=>by
  have ha:a ≠ 32:=fun e=>ht (by simp [e])
  have ih:=pre_word t l (fun hm=>ht (List.mem_cons_of_mem _ hm))
  rw [List.cons_append,List.isPrefixOf,Bool.and_eq_true,ih,beq_iff_eq]
  by_cases h:c = 32
  ·subst h
   simp [ha]
  ·have h2:(c == (32:UInt8)) = false:=by rw [beq_eq_false_iff_ne];exact h
   have h1:((32:UInt8) == c) = false:=by rw [beq_eq_false_iff_ne];exact fun e=>h e.symm
   rw [List.takeWhile_cons,if_pos (by rw [h2];rfl),List.contains_cons,h1,Bool.false_or,List.cons.injEq]
   constructor
   ·rintro ⟨rfl,h3,h4⟩;exact ⟨h3,rfl,h4⟩
   ·rintro ⟨h3,rfl,h4⟩;exact ⟨rfl,h3,h4⟩
theorem con_cons (b:UInt8) (l sub:List UInt8):Lib.contains (b :: l) sub = (sub.isPrefixOf (b :: l) || Lib.contains l sub):=by
 unfold Lib.contains
 have hg:=Lib.index_ge l sub
 rw [Lib.index]
 split
 ·rename_i h;rw [h];rfl
 ·rename_i h
  have h':sub.isPrefixOf (b :: l) = false:=by
   cases hh:sub.isPrefixOf (b :: l) with
   | false=>rfl
   | true=>exact absurd hh h
  rw [h',Bool.false_or]
  split
  ·rename_i h2
   rw [beq_iff_eq] at h2
   rw [h2]
  ·rename_i h2
   have h3:Lib.index l sub ≠ -1:=by simpa using h2
   rw [decide_eq_true (show (0:Int) ≤ Lib.index l sub + 1 by omega),decide_eq_true (show (0:Int) ≤ Lib.index l sub by omega)]
theorem con_wds:∀ (l t:List UInt8),(32:UInt8) ∉ t → Lib.contains l (32 :: (t ++ [32])) = (wds l).contains t
 | [],t,_=>by
  unfold Lib.contains
  rw [Lib.index]
  rfl
 | c :: r,t,ht=>by
  rw [con_cons,con_wds r t ht,wds]
  have hp:=pre_word t r ht
  by_cases h:c = 32
  ·subst h
   have e:(32 :: (t ++ [32])).isPrefixOf (32 :: r) = (t ++ [32]).isPrefixOf r:=by rw [List.isPrefixOf];simp
   rw [e]
   by_cases hc:r.contains 32 = true
   ·rw [if_pos ⟨rfl,hc⟩,List.contains_cons]
    congr 1
    rw [Bool.eq_iff_iff,hp,beq_iff_eq]
    exact ⟨fun h=>h.2,fun h=>⟨hc,h⟩⟩
   ·rw [if_neg (fun h=>hc h.2)]
    have:(t ++ [32]).isPrefixOf r = false:=by
     cases hq:(t ++ [32]).isPrefixOf r with
     | false=>rfl
     | true=>exact absurd (hp.1 hq).1 hc
    rw [this,Bool.false_or]
  ·rw [if_neg (fun h2=>h h2.1)]
   have e:(32 :: (t ++ [32])).isPrefixOf (c :: r) = false:=by
    rw [List.isPrefixOf]
    have:((32:UInt8) == c) = false:=by rw [beq_eq_false_iff_ne];exact fun e=>h e.symm
    rw [this];rfl
   rw [e,Bool.false_or]
def wordsL:List UInt8 := [32,102,114,111,109,32,97,115,32,99,111,112,121,32,114,117,110,32,119,111,114,107,100,105,114,32,109,107,100,105,114,32,114,101,109,111,118,101,32,115,101,116,32,105,102,32,101,108,115,101,32,119,104,105,108,101,32,100,111,32,102,97,105,108,32]
theorem words_kept {t:List UInt8} (h:(32:UInt8) ∉ t):Lib.contains wordsL (32 :: (t ++ [32])) = par.kept t:=by
 rw [con_wds _ _ h]
 rfl
theorem row_signs (gs:List UInt8) (ws:List (List UInt8)) (hw:wds (32 :: (gs ++ [32])) = ws) {t:List UInt8} (h:(32:UInt8) ∉ t):Lib.contains (32 :: (gs ++ [32])) (32 :: (t ++ [32])) = ws.contains t:=by
 rw [con_wds _ _ h,hw]
end Go.Proofs.YtmfpmandkhiknaaGreatDoor.con
namespace Go.Proofs.YtmfpmandkhiknaaGreatDoor.qar
open par
open Go.RowKit
open heap
open lex (Tk TRow TkAt run_store_float add0)
set_option maxRecDepth 100000
attribute [local go_sem] run_store_float
theorem field_tok0 (w:World) (a b c d:Value):(Instr.field 98 (.agg #[a,b,c,d]) 0).run Tryz.prog w = .ok a w:=by kernel_rfl
theorem field_tok1 (w:World) (a b c d:Value):(Instr.field 98 (.agg #[a,b,c,d]) 1).run Tryz.prog w = .ok b w:=by kernel_rfl
theorem field_tok3 (w:World) (a b c d:Value):(Instr.field 98 (.agg #[a,b,c,d]) 3).run Tryz.prog w = .ok d w:=by kernel_rfl
attribute [local go_sem] field_tok0 field_tok1 field_tok3
set_option maxHeartbeats 1000000 in
theorem now_any (p:Nat) (v:Value) (E:PE) (s:PS) (w:World) (h:PAt w p v E s) :
  Calls Tryz.prog 70 #[PP p] w fun e w'=>e = .returned (tnV (pn E s)) ∧ Below w.heap.size w w':=by
 obtain ⟨t,ht,hk⟩:=h.tok
 have HP:=Lib.hid h
 have hcs:=h.cells
 have q0:=hcs.c0
 have q1:=hcs.c1
 have hle:=h.le
 have hlen:=h.len
 have hpl:=h.lt
 have HROW:=Lib.hid h.row
 clear hcs h
 rw [← hk]
 have hti:(s.i:Int) < ((pts E).length:Int):=by omega
 rcases HROW.out.cells with ⟨-,h0⟩ | ⟨g,cp,rfl,hg,-,hc1,hc2,hcell⟩
 ·rw [h0] at hle;simp at hle
 ·obtain ⟨x0,x1,x2,x3⟩:=hcell _ t ht
  obtain ⟨kd,u,nm,a⟩:=t
  simp only [tnOf] at x0 x1 x2 x3 ⊢
  unfold maxLen at hc2
  clear hcell ht hk
  go_enter Tryz.func70,Tryz.ntmps70
  go_wp2_with fail
  go_region
  all_goals
   go_wp2_with fail
   have HB:=blk_new w (tnO ⟨kd,u,nm,a⟩)
   have z0:=blk_cell HB 0
   have z1:=blk_cell HB 1
   have z2:=blk_cell HB 2
   have z3:=blk_cell HB 3
   simp only [List.getElem?_toArray,List.getElem?_cons_zero,List.getElem?_cons_succ] at z0 z1 z2 z3
   refine bodyPost_ret (v:=tnV ⟨kd,u,nm,a⟩) (by simp [results,Tryz.results70,go_sem,z0,z1,z2,z3]) rfl ?_
   exact ⟨rfl,((Below.refl _ _).alloc (Nat.le_refl _) _).drew⟩
set_option maxHeartbeats 1000000 in
theorem is_any (p:Nat) (v:Value) (E:PE) (s:PS) (k:Int) (g:List UInt8) (b:Bool) (w:World) (h:PAt w p v E s) (hb:((pn E s).kind == k && (pn E s).text == g) = b) :
  Calls Tryz.prog 102 #[PP p,.int .i64 k,.string ⟨g.toArray⟩] w fun e w'=>e = .returned (.bool b) ∧ Below w.heap.size w w':=by
 have HN:=Lib.hid (fun W (hW:Below w.heap.size w W)=>now_any p v E s W (h.below hW))
 have HB:=Lib.hid hb
 have hpl:=h.lt
 clear h hb
 generalize pn E s = t at *
 obtain ⟨kd,u,nm,a⟩:=t
 simp only at HB
 have hB:=HB.out
 go_enter Tryz.func102,Tryz.ntmps102
 by_cases hk:kd = k
 ·have hkb:(kd == k) = true:=by rw [beq_iff_eq];exact hk
  obtain rfl:b = (u == g):=by rw [← hB,hkb];rfl
  clear hB hk
  go_wp2_with fail
  refine (HN.out _ (Below.refl _ _)).mono ?_;rintro e w1 ⟨rfl,hb1⟩
  have HB1:=Lib.hid hb1
  clear hb1
  go_wp2_with fail
  refine (HN.out _ HB1.out).mono ?_;rintro e w2 ⟨rfl,hb2⟩
  have HB2:=Lib.hid (HB1.out.trans (hb2.mono HB1.out.size))
  clear hb2
  go_wp2_with fail
  go_ret
  exact ⟨rfl,HB2.out⟩
 ·have hkb:(kd == k) = false:=beq_eq_false_iff_ne.2 hk
  obtain rfl:b = false:=by rw [← hB,hkb];rfl
  clear hB
  go_wp2_with fail
  refine (HN.out _ (Below.refl _ _)).mono ?_;rintro e w1 ⟨rfl,hb1⟩
  have HB1:=Lib.hid hb1
  clear hb1
  go_wp2_with fail
  go_ret
  exact ⟨rfl,HB1.out⟩
theorem fail_any (a c:Int) (w:World):Calls Tryz.prog 69 #[.int .i64 a,.int .i64 c] w fun e w'=>e = .panicked [{ v:=wrongV a c,recovered:=false }] ∧ w = w':=by
 go_enter Tryz.func69,Tryz.ntmps69
 go_wp2_with fail
 exact ⟨rfl,rfl,rfl⟩
set_option maxHeartbeats 1000000 in
theorem bad_any (p:Nat) (v:Value) (E:PE) (s:PS) (w:World) (h:PAt w p v E s) :
  Calls Tryz.prog 98 #[PP p] w (Thr p (wrong E s) w):=by
 obtain ⟨h1,h2⟩:=wrong_at h.c0 h.ok h.lexOr
 have HN:=Lib.hid (now_any p v E s w h)
 have HS:=Lib.hid (SW.start h)
 have HW:=Lib.hid (And.intro h1 h2)
 clear h h1 h2
 unfold Thr
 generalize (wrong E s).bad = wb at *
 generalize (wrong E s).code = wc at *
 generalize pn E s = t at *
 obtain ⟨kd,u,nm,a⟩:=t
 simp only at HW
 go_enter Tryz.func98,Tryz.ntmps98
 go_wp2_with fail
 refine HN.out.mono ?_;rintro e w1 ⟨rfl,hb1⟩
 have HS1:=Lib.hid ((HS.out.call (HS.out.P.below hb1) (Turned.of_below hb1)).alloc (tnO ⟨kd,u,nm,a⟩))
 clear hb1 HN HS
 go_upto_region 1 with fail
 change Code.wp _ _ _ _ (w1.alloc (tnO ⟨kd,u,nm,a⟩))
 generalize w1.alloc (tnO ⟨kd,u,nm,a⟩) = w2 at *
 obtain ⟨t0,t1,t2,t3,tf0,tf1,tf2,tf3,tl⟩:=HS1.out.c4 0 rfl
 have hcs:=HS1.out.P.cells
 have q2:=hcs.c2
 have hpl:=HS1.out.P.lt
 clear hcs
 by_cases hk:kd = 0
 ·have hkb:(kd == 0) = true:=by rw [hk];rfl
  by_cases hl:E.lex = 0
  ·have hlb:(E.lex != 0) = false:=by rw [hl];rfl
   obtain ⟨rfl,h2⟩:=HW.out
   rw [if_neg (fun h=>h.2 hl)] at h2
   subst h2
   go_wp2_with fail
   refine (fail_any _ _ _).mono ?_;rintro e w3 ⟨rfl,rfl⟩
   exact ⟨rfl,rfl,HS1.out.T⟩
  ·have hlb:(E.lex != 0) = true:=by simp [bne,hl]
   obtain ⟨rfl,h2⟩:=HW.out
   rw [if_pos ⟨hk,hl⟩] at h2
   subst h2
   go_upto_region 2 with fail
   go_still_tail 6,(by kernel_rfl)
   change wpList _ _ _ _ _ w2.drew
   go_wp2_with fail
   refine (fail_any _ _ _).mono ?_;rintro e w3 ⟨rfl,rfl⟩
   exact ⟨rfl,rfl,HS1.out.T.drew⟩
 ·have hkb:(kd == 0) = false:=beq_eq_false_iff_ne.2 hk
  obtain ⟨rfl,h2⟩:=HW.out
  rw [if_neg (fun h=>hk h.1)] at h2
  subst h2
  go_wp2_with fail
  refine (fail_any _ _ _).mono ?_;rintro e w3 ⟨rfl,rfl⟩
  exact ⟨rfl,rfl,HS1.out.T⟩
def StpR (p:Nat) (v:Value) (E:PE) (s2:PS) (r:Value) (w:World) (e:Ending) (w':World):Prop:=e = .returned r ∧ PAt w' p v E s2 ∧ Turned [p] w w'
theorem pn_isS {E:PE} {s:PS} (h:s.code = 0) (g:List UInt8):((pn E s).kind == 4 && (pn E s).text == g) = isS E g s:=by
 obtain ⟨h1,h2⟩:=pn_kt (E:=E) h
 rw [h1,h2];rfl
theorem pn_isW {E:PE} {s:PS} (h:s.code = 0) (g:List UInt8):((pn E s).kind == 1 && (pn E s).text == g) = isW E g s:=by
 obtain ⟨h1,h2⟩:=pn_kt (E:=E) h
 rw [h1,h2];rfl
theorem PAt.moreS {w:World} {p:Nat} {v:Value} {E:PE} {s:PS} (h:PAt w p v E s) {g:List UInt8} (hs:isS E g s = true):s.i + 1 < (pts E).length ∧ sT E s = s ∧ tk E s = pn E s:=by
 have hk:=(isS_kind hs).1
 rw [← (pn_kt (E:=E) h.c0).1] at hk
 obtain ⟨-,h1,h2,h3⟩:=h.more (by rw [hk];decide)
 exact ⟨h1,h2,h3⟩
theorem PAt.moreW {w:World} {p:Nat} {v:Value} {E:PE} {s:PS} (h:PAt w p v E s) {g:List UInt8} (hs:isW E g s = true):s.i + 1 < (pts E).length ∧ sT E s = s ∧ tk E s = pn E s:=by
 have hk:=(isW_kind hs).1
 rw [← (pn_kt (E:=E) h.c0).1] at hk
 obtain ⟨-,h1,h2,h3⟩:=h.more (by rw [hk];decide)
 exact ⟨h1,h2,h3⟩
set_option maxHeartbeats 1000000 in
theorem sign_any (p:Nat) (v:Value) (E:PE) (s:PS) (g:List UInt8) (b:Bool) (w:World) (h:PAt w p v E s) (hb:isS E g s = b) :
  Calls Tryz.prog 140 #[PP p,.string ⟨g.toArray⟩] w (StpR p v E (if b then inc s else s) (.bool b) w):=by
 have HI:=Lib.hid (fun W (hW:PAt W p v E s)=>is_any p v E s 4 g b W hW ((pn_isS h.c0 g).trans hb))
 have HS:=Lib.hid (SW.start h)
 have HM:Hid (b = true → s.i + 1 < (pts E).length):=fun hbt=>(h.moreS (hb.trans hbt)).1
 clear h hb
 unfold StpR
 go_enter Tryz.func140,Tryz.ntmps140
 go_wp2_with fail
 refine (HI.out _ HS.out.P).mono ?_;rintro e w2 ⟨rfl,hb⟩
 have HS2:=Lib.hid (HS.out.call (HS.out.P.below hb) (Turned.of_below hb))
 clear hb HI HS
 cases b with
 | true =>
  have hi:=HM.out rfl
  have hcs:=HS2.out.P.cells
  have q1:=hcs.c1
  have f1:=hcs.f1
  have hpl:=HS2.out.P.lt
  have hlen:=HS2.out.P.len
  clear hcs
  have HS3:=Lib.hid (HS2.out.inc hi)
  go_wp2_with fail
  go_ret
  exact ⟨rfl,HS3.out.P,HS3.out.T⟩
 | false =>
  go_wp2_with fail
  go_ret
  exact ⟨rfl,HS2.out.P,HS2.out.T⟩
set_option maxHeartbeats 1000000 in
theorem word_any (p:Nat) (v:Value) (E:PE) (s:PS) (g:List UInt8) (b:Bool) (w:World) (h:PAt w p v E s) (hb:isW E g s = b) :
  Calls Tryz.prog 97 #[PP p,.string ⟨g.toArray⟩] w (StpR p v E (if b then inc s else s) (.bool b) w):=by
 have HI:=Lib.hid (fun W (hW:PAt W p v E s)=>is_any p v E s 1 g b W hW ((pn_isW h.c0 g).trans hb))
 have HS:=Lib.hid (SW.start h)
 have HM:Hid (b = true → s.i + 1 < (pts E).length):=fun hbt=>(h.moreW (hb.trans hbt)).1
 clear h hb
 unfold StpR
 go_enter Tryz.func97,Tryz.ntmps97
 go_wp2_with fail
 refine (HI.out _ HS.out.P).mono ?_;rintro e w2 ⟨rfl,hb⟩
 have HS2:=Lib.hid (HS.out.call (HS.out.P.below hb) (Turned.of_below hb))
 clear hb HI HS
 cases b with
 | true =>
  have hi:=HM.out rfl
  have hcs:=HS2.out.P.cells
  have q1:=hcs.c1
  have f1:=hcs.f1
  have hpl:=HS2.out.P.lt
  have hlen:=HS2.out.P.len
  clear hcs
  have HS3:=Lib.hid (HS2.out.inc hi)
  go_wp2_with fail
  go_ret
  exact ⟨rfl,HS3.out.P,HS3.out.T⟩
 | false =>
  go_wp2_with fail
  go_ret
  exact ⟨rfl,HS2.out.P,HS2.out.T⟩
theorem wrong_sT (E:PE) (s:PS):wrong E (sT E s) = wrong E s:=by unfold wrong;rw [sT_sT,tk_sT]
def MayR (p:Nat) (v:Value) (E:PE) (s2:PS) (r:Value) (w:World) (e:Ending) (w':World):Prop:=(s2.code = 0 → StpR p v E s2 r w e w') ∧ (s2.code ≠ 0 → Thr p s2 w e w')
theorem MayR.ok {p:Nat} {v:Value} {E:PE} {s2:PS} {r:Value} {w w':World} {e:Ending} (h:StpR p v E s2 r w e w'):MayR p v E s2 r w e w':=⟨fun _=>h,fun hc=>absurd h.2.1.c0 hc⟩
theorem MayR.bad {p:Nat} {v:Value} {E:PE} {s2:PS} {r:Value} {w w':World} {e:Ending} (hc:s2.code ≠ 0) (h:Thr p s2 w e w'):MayR p v E s2 r w e w':=⟨fun h0=>absurd h0 hc,fun _=>h⟩
set_option maxHeartbeats 1000000 in
theorem must_any (p:Nat) (v:Value) (E:PE) (s:PS) (g:List UInt8) (w:World) (h:PAt w p v E s) :
  Calls Tryz.prog 101 #[PP p,.string ⟨g.toArray⟩] w (MayR p v E (must E g s) (.tuple #[]) w):=by
 have HS:=Lib.hid (SW.start h)
 obtain ⟨b,hb⟩:∃ b,isS E g s = b:=⟨_,rfl⟩
 have HI:=Lib.hid (fun W hW=>sign_any p v E s g b W hW hb)
 obtain ⟨s2,hs2⟩:∃ s2,must E g s = s2:=⟨_,rfl⟩
 rw [hs2]
 have HM:Hid (if b = true then s2 = inc s else s2 = wrong E s):=by
  unfold Hid
  rw [← hs2]
  unfold must
  rw [hb]
  cases b with
  | true=>rw [if_pos rfl,if_pos rfl,(h.moreS hb).2.1]
  | false=>rw [if_neg (by decide),if_neg (by decide),wrong_sT]
 clear hs2 hb h
 go_enter Tryz.func101,Tryz.ntmps101
 go_wp2_with fail
 refine (HI.out _ HS.out.P).mono ?_;rintro e w2 ⟨rfl,hP,hT⟩
 have HS2:=Lib.hid (HS.out.call hP hT)
 clear hP hT HI HS
 cases b with
 | true =>
  obtain rfl:s2 = inc s:=HM.out
  go_wp2_with fail
  go_end0
  exact .ok ⟨rfl,HS2.out.P,HS2.out.T⟩
 | false =>
  obtain rfl:s2 = wrong E s:=HM.out
  have HBD:=Lib.hid (bad_any p v E s w2 HS2.out.P)
  go_wp2_with fail
  refine HBD.out.mono ?_;rintro e w3 ⟨rfl,hT⟩
  exact ⟨rfl,.bad (wrong_code E s) ⟨rfl,HS2.out.T.trans hT⟩⟩
set_option maxHeartbeats 1000000 in
theorem next_any (p:Nat) (v:Value) (E:PE) (s:PS) (w:World) (h:PAt w p v E s) (hk:(pn E s).kind ≠ 0) :
  Calls Tryz.prog 139 #[PP p] w (StpR p v E (inc s) (tnV (pn E s)) w):=by
 have HS:=Lib.hid (SW.start h)
 have HN:=Lib.hid (fun W hW=>now_any p v E s W hW)
 have hi:=(h.more hk).2.1
 clear h hk
 unfold StpR
 generalize pn E s = t at *
 go_enter Tryz.func139,Tryz.ntmps139
 go_wp2_with fail
 have HS0:=Lib.hid (HS.out.alloc (tnO ⟨0,[],0,0⟩))
 refine (HN.out _ HS0.out.P).mono ?_;rintro e w2 ⟨rfl,hb⟩
 have HS2:=Lib.hid ((HS0.out.call (HS0.out.P.below hb) (Turned.of_below hb)).alloc (tnO t))
 clear hb HN HS HS0
 go_upto_region 2 with fail
 change Code.wp _ _ _ _ (w2.alloc (tnO t))
 generalize w2.alloc (tnO t) = w3 at *
 have hcs:=HS2.out.P.cells
 have q1:=hcs.c1
 have f1:=hcs.f1
 have hpl:=HS2.out.P.lt
 have hlen:=HS2.out.P.len
 clear hcs
 have HS3:=Lib.hid (HS2.out.inc hi)
 go_upto_region 3 with fail
 generalize (w3.setCell _ _) = w4 at *
 obtain ⟨t0,t1,t2,t3,tf0,tf1,tf2,tf3,tl⟩:=HS3.out.c4 0 rfl
 obtain ⟨r0,r1,r2,r3,rf0,rf1,rf2,rf3,rl⟩:=HS3.out.c4 1 rfl
 obtain ⟨rn,rm⟩:=HS3.out.ne 1 rfl
 obtain ⟨tn,tm⟩:=HS3.out.ne 0 rfl
 go_wp2_with fail
 have HS4:=Lib.hid (HS3.out.set4 1 rfl (.int .i64 t.kind) (.string ⟨t.text.toArray⟩) (.float .f64 t.num) (.int .i64 t.at'))
 generalize ((((w4.setCell _ _).setCell _ _).setCell _ _).setCell _ _) = w5 at HS4 ⊢
 clear r0 r1 r2 r3 rf0 rf1 rf2 rf3 rl
 obtain ⟨r0,r1,r2,r3,rf0,rf1,rf2,rf3,rl⟩:=HS4.out.c4 1 rfl
 refine bodyPost_ret (v:=tnV t) (by simp [results,Tryz.results139,go_sem,r0,r1,r2,r3]) rfl ?_
 exact ⟨rfl,HS4.out.P,HS4.out.T⟩
set_option maxHeartbeats 1000000 in
theorem reserved_any (t:List UInt8) (w:World) (h:(32:UInt8) ∉ t) (hl:t.length ≤ 1000000) (hm:∃ m:Int,w.cell? ⟨1,0,none⟩ = some (.int .i64 m)) :
  Calls Tryz.prog 138 #[.string ⟨t.toArray⟩] w fun e w'=>e = .returned (.bool (kept t)) ∧ w' = w:=by
 obtain ⟨m,hm⟩:=hm
 have z:(⟨t.toArray⟩:ByteArray).size = t.length:=by simp [ByteArray.size]
 have HC:=Lib.hid (Tryz.strings_Contains ⟨con.wordsL.toArray⟩ ⟨(32 :: (t ++ [32])).toArray⟩ m w (by decide) hm)
 have e1:Lib.contains (⟨con.wordsL.toArray⟩:ByteArray).data.toList (⟨(32 :: (t ++ [32])).toArray⟩:ByteArray).data.toList = kept t:=con.words_kept h
 rw [e1] at HC
 have hcat:((⟨#[32]⟩:ByteArray) ++ ⟨t.toArray⟩) ++ ⟨#[32]⟩ = ⟨(32 :: (t ++ [32])).toArray⟩:=by
  apply ByteArray.ext
  simp [ByteArray.data_append]
 clear e1 hm
 generalize kept t = b at *
 go_enter Tryz.func138,Tryz.ntmps138
 go_wp2_with fail
 refine HC.out.mono ?_;rintro e w2 ⟨rfl,rfl⟩
 go_wp2_with fail
 go_ret
 exact ⟨rfl,rfl⟩
theorem PAt.txt {w:World} {p:Nat} {v:Value} {E:PE} {s:PS} (h:PAt w p v E s) (hk:(pn E s).kind = 1 ∨ (pn E s).kind = 4):(32:UInt8) ∉ (pn E s).text ∧ (pn E s).text.length ≤ 32:=by
 unfold pn at hk ⊢
 cases ht:E.ts[s.i]? with
 | none=>rw [ht] at hk;rcases hk with hk | hk <;> cases hk
 | some t=>rw [ht] at hk;exact h.ok.txt t (List.mem_of_getElem? ht) hk
set_option maxHeartbeats 1000000 in
theorem kindT_any (p:Nat) (v:Value) (E:PE) (s:PS) (w:World) (h:PAt w p v E s) (s2:PS) (b:Bool) (hb:((pn E s).kind == 3) = b) (hs2:if b = true then s2 = inc s else s2 = wrong E s) :
  Calls Tryz.prog 99 #[PP p,.int .i64 3] w (MayR p v E s2 (tnV (pn E s)) w):=by
 have HS:=Lib.hid (SW.start h)
 have HN:=Lib.hid (fun W hW=>now_any p v E s W hW)
 have HNX:=Lib.hid (fun W hW=>next_any p v E s W hW)
 have HBD:=Lib.hid (fun W hW=>bad_any p v E s W hW)
 have HM:=Lib.hid hs2
 clear h hs2
 generalize pn E s = t at *
 have HS0:=Lib.hid (HS.out.alloc (tnO ⟨0,[],0,0⟩))
 clear HS
 go_enter Tryz.func99,Tryz.ntmps99
 go_wp2_with fail
 refine (HN.out _ HS0.out.P).mono ?_;rintro e w2 ⟨rfl,hb2⟩
 have HS2:=Lib.hid (HS0.out.call (HS0.out.P.below hb2) (Turned.of_below hb2))
 clear hb2 HN HS0
 cases b with
 | true =>
  obtain rfl:s2 = inc s:=HM.out
  have hk0:t.kind ≠ 0:=by rw [beq_iff_eq] at hb;omega
  have hbn:(t.kind != 3) = false:=by rw [bne,hb];rfl
  clear hb
  go_wp2_with fail
  refine (HNX.out _ HS2.out.P hk0).mono ?_;rintro e w3 ⟨rfl,hP,hT⟩
  have HS3:=Lib.hid (HS2.out.call hP hT)
  clear hP hT HNX HS2
  obtain ⟨r0,r1,r2,r3,rf0,rf1,rf2,rf3,rl⟩:=HS3.out.c4 0 rfl
  go_wp2_with fail
  have HS4:=Lib.hid (HS3.out.set4 0 rfl (.int .i64 t.kind) (.string ⟨t.text.toArray⟩) (.float .f64 t.num) (.int .i64 t.at'))
  generalize ((((w3.setCell _ _).setCell _ _).setCell _ _).setCell _ _) = w5 at HS4 ⊢
  clear r0 r1 r2 r3 rf0 rf1 rf2 rf3 rl
  obtain ⟨r0,r1,r2,r3,rf0,rf1,rf2,rf3,rl⟩:=HS4.out.c4 0 rfl
  refine bodyPost_ret (v:=tnV t) (by simp [results,Tryz.results99,go_sem,r0,r1,r2,r3]) rfl ?_
  exact .ok ⟨rfl,HS4.out.P,HS4.out.T⟩
 | false =>
  obtain rfl:s2 = wrong E s:=HM.out
  have hbn:(t.kind != 3) = true:=by rw [bne,hb];rfl
  clear hb
  go_wp2_with fail
  refine (HBD.out _ HS2.out.P).mono ?_;rintro e w3 ⟨rfl,hT⟩
  exact ⟨rfl,.bad (wrong_code E s) ⟨rfl,HS2.out.T.trans hT⟩⟩
set_option maxHeartbeats 1000000 in
theorem kindN_any (p:Nat) (v:Value) (E:PE) (s:PS) (w:World) (h:PAt w p v E s) (s2:PS) (b:Bool) (hb:((pn E s).kind == 1 && !kept (pn E s).text) = b) (hs2:if b = true then s2 = inc s else s2 = wrong E s) :
  Calls Tryz.prog 99 #[PP p,.int .i64 1] w (MayR p v E s2 (tnV (pn E s)) w):=by
 have HS:=Lib.hid (SW.start h)
 have HN:=Lib.hid (fun W hW=>now_any p v E s W hW)
 have HNX:=Lib.hid (fun W hW=>next_any p v E s W hW)
 have HBD:=Lib.hid (fun W hW=>bad_any p v E s W hW)
 have HRS:=Lib.hid (fun W (hW:PAt W p v E s) (hk:(pn E s).kind = 1)=>reserved_any (pn E s).text W (hW.txt (.inl hk)).1 (by have:=(hW.txt (.inl hk)).2;omega) hW.mx)
 have HM:=Lib.hid hs2
 clear h hs2
 obtain ⟨q,hq⟩:∃ q,kept (pn E s).text = q:=⟨_,rfl⟩
 rw [hq] at hb HRS
 have HB:=Lib.hid hb
 clear hq hb
 generalize pn E s = t at *
 have HS0:=Lib.hid (HS.out.alloc (tnO ⟨0,[],0,0⟩))
 clear HS
 go_enter Tryz.func99,Tryz.ntmps99
 go_wp2_with fail
 refine (HN.out _ HS0.out.P).mono ?_;rintro e w2 ⟨rfl,hb2⟩
 have HS2:=Lib.hid (HS0.out.call (HS0.out.P.below hb2) (Turned.of_below hb2))
 clear hb2 HS0
 have hB:=HB.out
 cases hk1:(t.kind == 1) with
 | false =>
  rw [hk1] at hB
  obtain rfl:b = false:=by rw [← hB];rfl
  obtain rfl:s2 = wrong E s:=HM.out
  have hbn:(t.kind != 1) = true:=by rw [bne,hk1];rfl
  clear hB hk1
  go_wp2_with fail
  refine (HBD.out _ HS2.out.P).mono ?_;rintro e w3 ⟨rfl,hT⟩
  exact ⟨rfl,.bad (wrong_code E s) ⟨rfl,HS2.out.T.trans hT⟩⟩
 | true =>
  have hk:t.kind = 1:=by simpa using hk1
  rw [hk1,Bool.true_and] at hB
  have hbn:(t.kind != 1) = false:=by rw [bne,hk1];rfl
  have HK:=Lib.hid hk
  clear hk1 hk
  go_wp2_with fail
  refine (HN.out _ HS2.out.P).mono ?_;rintro e w3 ⟨rfl,hb3⟩
  have HS3:=Lib.hid (HS2.out.call (HS2.out.P.below hb3) (Turned.of_below hb3))
  clear hb3 HN HS2
  go_wp2_with fail
  refine (HRS.out _ HS3.out.P HK.out).mono ?_;rintro e w3 ⟨rfl,rfl⟩
  cases q with
  | true =>
   obtain rfl:b = false:=hB.symm
   obtain rfl:s2 = wrong E s:=HM.out
   clear hB
   go_wp2_with fail
   refine (HBD.out _ HS3.out.P).mono ?_;rintro e w4 ⟨rfl,hT⟩
   exact ⟨rfl,.bad (wrong_code E s) ⟨rfl,HS3.out.T.trans hT⟩⟩
  | false =>
   obtain rfl:b = true:=hB.symm
   obtain rfl:s2 = inc s:=HM.out
   clear hB
   go_wp2_with fail
   refine (HNX.out _ HS3.out.P (by rw [HK.out];decide)).mono ?_;rintro e w4 ⟨rfl,hP,hT⟩
   have HS4:=Lib.hid (HS3.out.call hP hT)
   clear hP hT HNX HS3
   obtain ⟨r0,r1,r2,r3,rf0,rf1,rf2,rf3,rl⟩:=HS4.out.c4 0 rfl
   go_wp2_with fail
   have HS5:=Lib.hid (HS4.out.set4 0 rfl (.int .i64 t.kind) (.string ⟨t.text.toArray⟩) (.float .f64 t.num) (.int .i64 t.at'))
   generalize ((((w4.setCell _ _).setCell _ _).setCell _ _).setCell _ _) = w5 at HS5 ⊢
   clear r0 r1 r2 r3 rf0 rf1 rf2 rf3 rl
   obtain ⟨r0,r1,r2,r3,rf0,rf1,rf2,rf3,rl⟩:=HS5.out.c4 0 rfl
   refine bodyPost_ret (v:=tnV t) (by simp [results,Tryz.results99,go_sem,r0,r1,r2,r3]) rfl ?_
   exact .ok ⟨rfl,HS5.out.P,HS5.out.T⟩
theorem among_any (p:Nat) (v:Value) (E:PE) (s:PS) (gs:List UInt8) (ws:List (List UInt8)) (b:Bool) (w:World) (h:PAt w p v E s) (hg:gs.length ≤ 100) (hw:con.wds (32 :: (gs ++ [32])) = ws) (hb:((pn E s).kind == 4 && ws.contains (pn E s).text) = b) :
  Calls Tryz.prog 146 #[PP p,.string ⟨gs.toArray⟩] w fun e w'=>e = .returned (.bool b) ∧ Below w.heap.size w w':=by
 have HN:=Lib.hid (fun W (hW:Below w.heap.size w W)=>now_any p v E s W (h.below hW))
 have HC:Hid (∀ W,Below w.heap.size w W → (pn E s).kind = 4 → Calls Tryz.prog 173 #[.string ⟨(32 :: (gs ++ [32])).toArray⟩,.string ⟨(32 :: ((pn E s).text ++ [32])).toArray⟩] W fun e w'=>e = .returned (.bool (ws.contains (pn E s).text)) ∧ w' = W):=fun W hW hk=>by
  obtain ⟨m,hm⟩:=(h.below hW).mx
  have:=Tryz.strings_Contains ⟨(32 :: (gs ++ [32])).toArray⟩ ⟨(32 :: ((pn E s).text ++ [32])).toArray⟩ m W (by
   have:(⟨(32 :: (gs ++ [32])).toArray⟩:ByteArray).size = gs.length + 2:=by simp [ByteArray.size]
   omega) hm
  have e1:Lib.contains (⟨(32 :: (gs ++ [32])).toArray⟩:ByteArray).data.toList (⟨(32 :: ((pn E s).text ++ [32])).toArray⟩:ByteArray).data.toList = ws.contains (pn E s).text:=con.row_signs gs ws hw (h.txt (.inr hk)).1
  rw [e1] at this
  exact this
 have HL:Hid ((pn E s).kind = 4 → (pn E s).text.length ≤ 32):=fun hk=>(h.txt (.inr hk)).2
 have zg:(⟨gs.toArray⟩:ByteArray).size ≤ 100:=by simpa [ByteArray.size] using hg
 have hc1:((⟨#[32]⟩:ByteArray) ++ ⟨gs.toArray⟩) ++ ⟨#[32]⟩ = ⟨(32 :: (gs ++ [32])).toArray⟩:=by apply ByteArray.ext;simp [ByteArray.data_append]
 have hc2:((⟨#[32]⟩:ByteArray) ++ ⟨(pn E s).text.toArray⟩) ++ ⟨#[32]⟩ = ⟨(32 :: ((pn E s).text ++ [32])).toArray⟩:=by apply ByteArray.ext;simp [ByteArray.data_append]
 have HB:=Lib.hid hb
 have hpl:=h.lt
 have zu:(⟨(pn E s).text.toArray⟩:ByteArray).size = (pn E s).text.length:=by simp [ByteArray.size]
 clear h hb hw
 generalize pn E s = t at *
 obtain ⟨kd,u,nm,a⟩:=t
 simp only at HB hc2 HL HC zu
 have hB:=HB.out
 generalize ws.contains u = q at *
 generalize (⟨(32 :: (gs ++ [32])).toArray⟩:ByteArray) = G at *
 generalize (⟨(32 :: (u ++ [32])).toArray⟩:ByteArray) = U at *
 go_enter Tryz.func146,Tryz.ntmps146
 go_wp2_with fail
 refine (HN.out _ (Below.refl _ _)).mono ?_;rintro e w1 ⟨rfl,hb1⟩
 have HB1:=Lib.hid hb1
 clear hb1
 cases hk:(kd == 4) with
 | false =>
  rw [hk] at hB
  obtain rfl:b = false:=by rw [← hB];rfl
  clear hB
  go_wp2_with fail
  go_ret
  exact ⟨rfl,HB1.out⟩
 | true =>
  have hk4:kd = 4:=by simpa using hk
  rw [hk,Bool.true_and] at hB
  have hl:=HL.out hk4
  have HCC:=Lib.hid (fun W hW=>HC.out W hW hk4)
  clear hk4 HC HL
  subst hB
  go_wp2_with fail
  refine (HN.out _ HB1.out).mono ?_;rintro e w2 ⟨rfl,hb2⟩
  have HB2:=Lib.hid (HB1.out.trans (hb2.mono HB1.out.size))
  clear hb2
  go_wp2_with fail
  refine (HCC.out _ HB2.out).mono ?_;rintro e w2 ⟨rfl,rfl⟩
  go_wp2_with fail
  go_ret
  exact ⟨rfl,HB2.out⟩
theorem called_at (E:PE) (s:PS):(∃ t,(pts E)[s.i + 1]? = some t ∧ (t.kind == 4 && t.text == [40]) = called E s) ∨ ((pts E).length ≤ s.i + 1 ∧ called E s = false):=by
 have hp:=pts_len E
 by_cases hi:s.i + 1 < E.ts.length
 ·left
  have ht:E.ts[s.i + 1]? = some E.ts[s.i + 1]:=List.getElem?_eq_getElem hi
  refine ⟨_,(pts_ts hi).trans ht,?_⟩
  unfold called
  rw [ht]
 ·have hc:called E s = false:=by
   unfold called
   rw [List.getElem?_eq_none (by omega)]
  rw [hc]
  by_cases h0:E.lex = 0
  ·right
   rw [if_pos h0] at hp
   exact ⟨by omega,rfl⟩
  ·rw [if_neg h0] at hp
   by_cases he:s.i + 1 = E.ts.length
   ·left
    refine ⟨⟨0,[],0,E.lat.toNat⟩,?_,rfl⟩
    unfold pts
    rw [if_neg h0,he,List.getElem?_append_right (Nat.le_refl _)]
    simp
   ·right
    exact ⟨by omega,rfl⟩
set_option maxHeartbeats 2000000 in
theorem called_any (p:Nat) (v:Value) (E:PE) (s:PS) (w:World) (h:PAt w p v E s) :
  Calls Tryz.prog 242 #[PP p] w fun e w'=>e = .returned (.bool (called E s)) ∧ Below w.heap.size w w':=by
 have hcs:=h.cells
 have q0:=hcs.c0
 have q1:=hcs.c1
 have hle:=h.le
 have hlen:=h.len
 have hpl:=h.lt
 have HROW:=Lib.hid h.row
 have hiw:IntKind.i64.wrap ((s.i:Int) + 1) = (s.i:Int) + 1:=IntWalk.i64_in _ (by omega)
 rcases called_at E s with ⟨t,ht,hc⟩ | ⟨hge,hc⟩
 ·rw [← hc]
  have hlt:s.i + 1 < (pts E).length:=(List.getElem?_eq_some_iff.1 ht).1
  rcases HROW.out.cells with ⟨-,h0⟩ | ⟨g,cp,rfl,hg,-,hc1,hc2,hcell⟩
  ·rw [h0] at hle;simp at hle
  obtain ⟨x0,x1,x2,x3⟩:=hcell _ t ht
  obtain ⟨kd,u,nm,a⟩:=t
  simp only at x0 x1 x2 x3 ⊢
  unfold maxLen at hc2
  have hti:((s.i:Int) + 1) < ((pts E).length:Int):=by omega
  clear hcell ht hc hcs h
  by_cases hk:kd = 4
  ·subst hk
   go_enter Tryz.func242,Tryz.ntmps242
   go_wp2_with fail
   go_quiet (fail)
   go_wp2_with fail
   go_ret
   exact ⟨by simp,by (repeat (first | exact Below.refl _ _ | refine Below.setCell ?_ (by simp) _ | refine below_drewN ?_ _ | refine Below.drew ?_ | refine Below.alloc ?_ (by simp) _))⟩
  ·have hkb:(kd == 4) = false:=beq_eq_false_iff_ne.2 hk
   rw [hkb]
   clear hk
   go_enter Tryz.func242,Tryz.ntmps242
   go_wp2_with fail
   go_quiet (fail)
   go_wp2_with fail
   go_ret
   exact ⟨rfl,by (repeat (first | exact Below.refl _ _ | refine Below.setCell ?_ (by simp) _ | refine below_drewN ?_ _ | refine Below.drew ?_ | refine Below.alloc ?_ (by simp) _))⟩
 ·rw [hc]
  have hti2:¬ ((s.i:Int) + 1) < ((pts E).length:Int):=by omega
  have hti:decide (((s.i:Int) + 1) < ((pts E).length:Int)) = false:=decide_eq_false hti2
  obtain ⟨a1,c1,rfl⟩:=HROW.out.slice
  clear hc hcs h hti2 hpl
  go_enter Tryz.func242,Tryz.ntmps242
  go_wp2_with fail
  go_quiet (fail)
  go_wp2_with fail
  go_ret
  exact ⟨rfl,by (repeat (first | exact Below.refl _ _ | refine Below.setCell ?_ (by simp) _ | refine below_drewN ?_ _ | refine Below.drew ?_ | refine Below.alloc ?_ (by simp) _))⟩
theorem begins_pn {E:PE} {s:PS} (h:s.code = 0):begins E s = ((pn E s).kind == 2 || (pn E s).kind == 3 || ((pn E s).kind == 1 && (!kept (pn E s).text || called E s)) || ((pn E s).kind == 4 && [[(40:UInt8)],[45],[33]].contains (pn E s).text)):=by
 unfold begins
 rw [← pn_isS h,← pn_isS h,← pn_isS h,← (pn_kt (E:=E) h).1,← (pn_kt (E:=E) h).2]
 generalize pn E s = t
 generalize called E s = c
 generalize kept t.text = k
 have h3 : [[(40:UInt8)],[45],[33]].contains t.text = (t.text == [40] || (t.text == [45] || t.text == [33])):=by
  rw [List.contains_cons,List.contains_cons,List.contains_cons,List.contains_nil,Bool.or_false]
 rw [h3]
 cases (t.kind == 2) <;> cases (t.kind == 3) <;> cases (t.kind == 1) <;> cases (t.kind == 4) <;> cases (t.text == [40]) <;> cases (t.text == [45]) <;> cases (t.text == [33]) <;> cases c <;> cases k <;> rfl
set_option maxHeartbeats 2000000 in
theorem begins_any (p:Nat) (v:Value) (E:PE) (s:PS) (w:World) (h:PAt w p v E s) (b:Bool) (hb:begins E s = b) :
  Calls Tryz.prog 244 #[PP p] w fun e w'=>e = .returned (.bool b) ∧ Below w.heap.size w w':=by
 have HN:=Lib.hid (fun W (hW:Below w.heap.size w W)=>now_any p v E s W (h.below hW))
 have HC:=Lib.hid (fun W (hW:Below w.heap.size w W)=>called_any p v E s W (h.below hW))
 have HA:=Lib.hid (fun W (hW:Below w.heap.size w W)=>among_any p v E s [40,32,45,32,33] [[40],[45],[33]] _ W (h.below hW) (by decide) (by decide) rfl)
 have HRS:=Lib.hid (fun W (hW:Below w.heap.size w W) (hk:(pn E s).kind = 1)=>reserved_any (pn E s).text W (h.txt (.inl hk)).1 (by have:=(h.txt (.inl hk)).2;omega) (h.below hW).mx)
 have HB:=Lib.hid ((begins_pn (E:=E) h.c0).symm.trans hb)
 have hpl:=h.lt
 clear h hb
 obtain ⟨q,hq⟩:∃ q,[[(40:UInt8)],[45],[33]].contains (pn E s).text = q:=⟨_,rfl⟩
 rw [hq] at HB HA
 clear hq
 obtain ⟨k,hq⟩:∃ k,kept (pn E s).text = k:=⟨_,rfl⟩
 rw [hq] at HB HRS
 clear hq
 generalize pn E s = t at *
 generalize called E s = c at *
 obtain ⟨kd,u,nm,a⟩:=t
 simp only at HB HA HRS
 go_enter Tryz.func244,Tryz.ntmps244
 go_wp2_with fail
 refine (HN.out _ (Below.refl _ _)).mono ?_;rintro e w1 ⟨rfl,hb1⟩
 have HB1:=Lib.hid (hb1.alloc hb1.size (tnO ⟨kd,u,nm,a⟩))
 have HL:=Lib.hid (blk_new w1 (tnO ⟨kd,u,nm,a⟩))
 have hbt:=hb1.size
 clear hb1 HN
 go_upto_region 2 with fail
 change Code.wp _ _ _ _ (w1.alloc (tnO ⟨kd,u,nm,a⟩))
 generalize w1.alloc (tnO ⟨kd,u,nm,a⟩) = w2 at *
 generalize w1.heap.size = bt at *
 have hB:=HB.out
 clear HB
 have z0:w2.cell? ⟨bt,0,none⟩ = some (.int .i64 kd):=by rw [blk_cell HL.out];rfl
 by_cases k2:kd = 2
 ·subst k2
  obtain rfl:b = true:=by rw [← hB];rfl
  clear hB
  go_wp2_with fail
  go_ret
  exact ⟨rfl,HB1.out⟩
 have e2:(kd == 2) = false:=beq_eq_false_iff_ne.2 k2
 by_cases k3:kd = 3
 ·subst k3
  obtain rfl:b = true:=by rw [← hB];rfl
  clear hB k2
  go_wp2_with fail
  go_ret
  exact ⟨rfl,HB1.out⟩
 have e3:(kd == 3) = false:=beq_eq_false_iff_ne.2 k3
 rw [e2,e3] at hB
 clear k2 k3
 have z1:w2.cell? ⟨bt,1,none⟩ = some (.string ⟨u.toArray⟩):=by rw [blk_cell HL.out];rfl
 by_cases k1:kd = 1
 ·subst k1
  have HR2:=Lib.hid (fun W hW=>HRS.out W hW rfl)
  clear HRS e2 e3
  go_wp2_with fail
  refine (HR2.out _ HB1.out).mono ?_;rintro e w2 ⟨rfl,rfl⟩
  cases k with
  | false =>
   obtain rfl:b = true:=by rw [← hB];rfl
   clear hB
   go_wp2_with fail
   go_ret
   exact ⟨rfl,HB1.out⟩
  | true =>
   obtain rfl:b = c:=by rw [← hB];cases c <;> rfl
   clear hB
   go_wp2_with fail
   refine (HC.out _ HB1.out).mono ?_;rintro e w3 ⟨rfl,hb3⟩
   have HB3:=Lib.hid (HB1.out.trans (hb3.mono HB1.out.size))
   clear hb3
   go_wp2_with fail
   go_ret
   exact ⟨rfl,HB3.out⟩
 ·have e1:(kd == 1) = false:=beq_eq_false_iff_ne.2 k1
  have hqb:(kd == 4 && q) = b:=by rw [← hB,e1];simp
  rw [hqb] at HA
  clear hB k1 hqb
  go_wp2_with fail
  refine (HA.out _ HB1.out).mono ?_;rintro e w3 ⟨rfl,hb3⟩
  have HB3:=Lib.hid (HB1.out.trans (hb3.mono HB1.out.size))
  clear hb3
  go_wp2_with fail
  go_ret
  exact ⟨rfl,HB3.out⟩
end Go.Proofs.YtmfpmandkhiknaaGreatDoor.qar
namespace Go.Proofs.YtmfpmandkhiknaaGreatDoor.qar
open par
open Go.RowKit
open heap
open lex (Tk TRow TkAt run_store_float add0)
set_option maxRecDepth 100000
attribute [local go_sem] run_store_float field_tok0 field_tok1 field_tok3
theorem Thr.of {p:Nat} {s s2:PS} {w w':World} {e:Ending} (h:Thr p s w e w') (h1:s2.code = s.code) (h2:s2.bad = s.bad):Thr p s2 w e w':=by
 obtain ⟨h3,h4⟩:=h
 exact ⟨by rw [h1,h2];exact h3,h4⟩
theorem Thr.stk {p:Nat} {s s2:PS} {w w':World} {e:Ending} (h:Thr p s w e w') (hc:s.code ≠ 0) (hs:Stk s s2):s2.code ≠ 0 ∧ Thr p s2 w e w':=by
 obtain ⟨h1,h2⟩:=hs hc
 exact ⟨by rw [h1];exact hc,h.of h1 h2⟩
theorem Thr.from {p:Nat} {s:PS} {w W w':World} {e:Ending} (h:Thr p s W e w') (ht:Turned [p] w W):Thr p s w e w':=⟨h.1,ht.trans h.2⟩
theorem NodeR.bad {p:Nat} {v:Value} {E:PE} {i:Nat} {s2:PS} {x:Nd} {w w':World} {e:Ending} (hc:s2.code ≠ 0) (h:Thr p s2 w e w'):NodeR p v E i s2 x w e w':=.inr ⟨hc,h⟩
theorem NodeR.thr {p:Nat} {v:Value} {E:PE} {i:Nat} {s s2:PS} {x:Nd} {w W w':World} {e:Ending} (hc:s.code ≠ 0) (h:Thr p s W e w') (ht:Turned [p] w W) (hs:Stk s s2):NodeR p v E i s2 x w e w':=
 have hh:=(h.from ht).stk hc hs
 .bad hh.1 hh.2
theorem NodeR.ok {p:Nat} {v:Value} {E:PE} {i:Nat} {t s2:PS} {x:Nd} {w w':World} {e:Ending} (ht:t = s2 ∨ sT E t = s2) (hi:i < t.i) (h:NodeO p v E t x w e w'):NodeR p v E i s2 x w e w':=.inl ⟨t,ht,hi,h⟩
theorem sT_out (E:PE) (s:PS):sT E (out s) = out (sT E s):=by
 obtain ⟨i,c,b,dp⟩:=s
 unfold sT pT out
 by_cases h:c = 0
 ·subst h
  simp only [ne_eq,not_true_eq_false,if_false]
  cases E.ts[i]? with
  | some t=>rfl
  | none=>simp only [flt,if_true]
 ·simp only [ne_eq,h,not_false_eq_true,if_true]
theorem al_out {E:PE} {t s:PS} (h:t = s ∨ sT E t = s):out t = out s ∨ sT E (out t) = out s:=by
 rcases h with rfl | rfl
 ·exact .inl rfl
 ·exact .inr (sT_out E t)
def DeepR (p:Nat) (v:Value) (E:PE) (s:PS) (b:Bool) (s3:PS) (x:Nd) (w:World) (e:Ending) (w':World):Prop:=
 (40 < s.deep → Thr p (if b then flt s 1901 (pn E s).at' else wrong E s) w e w') ∧ (¬ 40 < s.deep → NodeR p v E s.i (out s3) x w e w')
theorem flt_at (s:PS) (c a:Int) (h:s.code = 0):(flt s c a).code = c ∧ (flt s c a).bad = a:=by unfold flt;rw [if_pos h];exact ⟨rfl,rfl⟩
theorem PAt.into {w:World} {p:Nat} {v:Value} {E:PE} {s:PS} (h:PAt w p v E s):PAt (w.setCell ⟨p,3,none⟩ (.int .i64 (wrap64 (s.deep + 1)))) p v E { s with deep:=wrap64 (s.deep + 1) }:=h.deep _
set_option maxHeartbeats 2000000 in
theorem deepE (p:Nat) (v:Value) (E:PE) (s:PS) (b:Bool) (s3:PS) (x:Nd) (w:World) (h:PAt w p v E s)
  (H1:∀ W,Below w.heap.size w W → Calls Tryz.prog 244 #[PP p] W fun e w'=>e = .returned (.bool b) ∧ Below W.heap.size W w')
  (H2:∀ W,PAt W p v E { s with deep:=wrap64 (s.deep + 1) } → Calls Tryz.prog 108 #[PP p] W (NodeR p v E s.i s3 x W)) :
  Calls Tryz.prog 148 #[PP p,.func (.func 244) #[PP p] #[],.func (.func 108) #[PP p] #[]] w (DeepR p v E s b s3 x w):=by
 have HN:=Lib.hid (fun W (hW:PAt W p v E s)=>now_any p v E s W hW)
 have HBD:=Lib.hid (fun W (hW:PAt W p v E s)=>bad_any p v E s W hW)
 have HH1:=Lib.hid (fun W=>H1 W)
 have HH2:=Lib.hid (fun W=>H2 W)
 have HS:=Lib.hid (SW.start h)
 have HX:Hid (s.code = 0):=h.c0
 clear H1 H2 h
 have hcs:=HS.out.P.cells
 have q3:=hcs.c3
 have f3:=hcs.f3
 have hpl:=HS.out.P.lt
 clear hcs
 by_cases hd:40 < s.deep
 ·have hdd:decide (40 < s.deep) = true:=decide_eq_true hd
  have HD:=Lib.hid hd
  clear hd HH2
  have HB0:=Lib.hid ((Below.refl w.heap.size w).alloc (Nat.le_refl _) (ndO zero (.slice none 0 0)))
  have HS1:=Lib.hid (HS.out.alloc (ndO zero (.slice none 0 0)))
  clear HS
  go_enter Tryz.func148,Tryz.ntmps148
  go_wp2_with fail
  refine (HH1.out _ HB0.out).mono ?_;rintro e w2 ⟨rfl,hb2⟩
  have HS2:=Lib.hid (HS1.out.call (HS1.out.P.below hb2) (Turned.of_below hb2))
  clear hb2 HH1 HS1 HB0 q3 f3
  cases b with
  | false =>
   go_wp2_with fail
   refine (HBD.out _ HS2.out.P).mono ?_;rintro e w3 ⟨rfl,hT⟩
   exact ⟨rfl,fun _=>⟨rfl,HS2.out.T.trans hT⟩,fun h=>absurd HD.out h⟩
  | true =>
   obtain ⟨t,ht⟩:∃ t,pn E s = t:=⟨_,rfl⟩
   have HTT:=Lib.hid ht
   rw [ht] at HN
   clear ht
   have HF:=Lib.hid (flt_at s 1901 t.at' HX.out)
   go_wp2_with fail
   refine (HN.out _ HS2.out.P).mono ?_;rintro e w3 ⟨rfl,hb3⟩
   have HS3:=Lib.hid (HS2.out.call (HS2.out.P.below hb3) (Turned.of_below hb3))
   clear hb3 HS2
   obtain ⟨kd,u,nm,a⟩:=t
   simp only at HF
   go_wp2_with fail
   refine (fail_any _ _ _).mono ?_;rintro e w4 ⟨rfl,rfl⟩
   exact ⟨rfl,fun _=>⟨by rw [if_pos rfl,HTT.out,HF.out.1,HF.out.2],HS3.out.T⟩,fun h=>absurd HD.out h⟩
 ·have hdd:decide (40 < s.deep) = false:=decide_eq_false hd
  have HD:=Lib.hid hd
  clear hd HH1 HN HBD
  have HS0:=Lib.hid (HS.out.alloc (ndO zero (.slice none 0 0)))
  clear HS
  go_enter Tryz.func148,Tryz.ntmps148
  go_upto_region 1 with fail
  clear q3 f3 hpl
  change Code.wp _ _ _ _ (w.alloc (ndO zero (.slice none 0 0)))
  generalize w.alloc (ndO zero (.slice none 0 0)) = w0 at *
  have hcs:=HS0.out.P.cells
  have q3:=hcs.c3
  have f3:=hcs.f3
  have hpl:=HS0.out.P.lt
  clear hcs
  have HS1:=Lib.hid (HS0.out.setP HS0.out.P.into)
  clear HS0
  go_upto_region 6 with fail
  generalize (w0.setCell _ _) = w1 at *
  clear q3 f3 hpl
  go_wp2_with fail
  refine (HH2.out _ HS1.out.P).mono ?_
  rintro e w2 hnr
  rcases hnr with ⟨t2,ht2,hi2,aw,nw,S,rfl,hk,hS,hP,hT⟩ | ⟨hc,rfl,hT⟩
  rotate_left
  ·go_wp2_with fail
   exact ⟨rfl,fun h=>absurd h (by have:=HD.out;omega),fun _=>.bad hc ⟨rfl,HS1.out.T.trans hT⟩⟩
  ·skip
   have HS2:=Lib.hid (HS1.out.callT hk hS hP hT)
   have HAL:Hid ((t2 = s3 ∨ sT E t2 = s3) ∧ s.i < t2.i):=⟨ht2,hi2⟩
   clear hk hS hP hT HH2 HS1 hdd ht2 hi2
   have hcs:=HS2.out.P.cells
   have q3:=hcs.c3
   have f3:=hcs.f3
   have hpl:=HS2.out.P.lt
   clear hcs
   obtain ⟨r0,r1,r2,r3,r4,rf0,rf1,rf2,rf3,rf4,rl⟩:=HS2.out.c5 0 rfl
   obtain ⟨rn,rm⟩:=HS2.out.ne 0 rfl
   go_wp2_with fail
   have HSF:=Lib.hid (((HS2.out.out).set5 0 rfl (.int .i64 x.kind) (.string ⟨x.text.toArray⟩) (.float .f64 x.num) (.slice aw x.kids.length nw) (.int .i64 x.at')).alloc (ndO x (.slice aw x.kids.length nw)))
   generalize (World.alloc ((((((w2.setCell _ _).setCell _ _).setCell _ _).setCell _ _).setCell _ _).setCell _ _) _) = wf at HSF ⊢
   obtain ⟨z0,z1,z2,z3,z4,zf0,zf1,zf2,zf3,zf4,zl⟩:=HSF.out.c5 1 rfl
   refine bodyPost_ret (v:=ndV x (.slice aw x.kids.length nw)) (by simp [results,Tryz.results148,go_sem,z0,z1,z2,z3,z4]) rfl ?_
   exact ⟨fun h=>absurd h (by have:=HD.out;omega),fun _=>.ok (al_out HAL.out.1) HAL.out.2 (HSF.out.node (List.mem_cons_self ..) x rfl)⟩
set_option maxHeartbeats 2000000 in
theorem deepU (p:Nat) (v:Value) (E:PE) (s:PS) (b:Bool) (s3:PS) (x:Nd) (w:World) (h:PAt w p v E s)
  (H1:∀ W,Below w.heap.size w W → Calls Tryz.prog 244 #[PP p] W fun e w'=>e = .returned (.bool b) ∧ Below W.heap.size W w')
  (H2:∀ W,PAt W p v E { s with deep:=wrap64 (s.deep + 1) } → Calls Tryz.prog 219 #[PP p] W (NodeR p v E s.i s3 x W)) :
  Calls Tryz.prog 148 #[PP p,.func (.func 244) #[PP p] #[],.func (.func 219) #[PP p] #[]] w (DeepR p v E s b s3 x w):=by
 have HN:=Lib.hid (fun W (hW:PAt W p v E s)=>now_any p v E s W hW)
 have HBD:=Lib.hid (fun W (hW:PAt W p v E s)=>bad_any p v E s W hW)
 have HH1:=Lib.hid (fun W=>H1 W)
 have HH2:=Lib.hid (fun W=>H2 W)
 have HS:=Lib.hid (SW.start h)
 have HX:Hid (s.code = 0):=h.c0
 clear H1 H2 h
 have hcs:=HS.out.P.cells
 have q3:=hcs.c3
 have f3:=hcs.f3
 have hpl:=HS.out.P.lt
 clear hcs
 by_cases hd:40 < s.deep
 ·have hdd:decide (40 < s.deep) = true:=decide_eq_true hd
  have HD:=Lib.hid hd
  clear hd HH2
  have HB0:=Lib.hid ((Below.refl w.heap.size w).alloc (Nat.le_refl _) (ndO zero (.slice none 0 0)))
  have HS1:=Lib.hid (HS.out.alloc (ndO zero (.slice none 0 0)))
  clear HS
  go_enter Tryz.func148,Tryz.ntmps148
  go_wp2_with fail
  refine (HH1.out _ HB0.out).mono ?_;rintro e w2 ⟨rfl,hb2⟩
  have HS2:=Lib.hid (HS1.out.call (HS1.out.P.below hb2) (Turned.of_below hb2))
  clear hb2 HH1 HS1 HB0 q3 f3
  cases b with
  | false =>
   go_wp2_with fail
   refine (HBD.out _ HS2.out.P).mono ?_;rintro e w3 ⟨rfl,hT⟩
   exact ⟨rfl,fun _=>⟨rfl,HS2.out.T.trans hT⟩,fun h=>absurd HD.out h⟩
  | true =>
   obtain ⟨t,ht⟩:∃ t,pn E s = t:=⟨_,rfl⟩
   have HTT:=Lib.hid ht
   rw [ht] at HN
   clear ht
   have HF:=Lib.hid (flt_at s 1901 t.at' HX.out)
   go_wp2_with fail
   refine (HN.out _ HS2.out.P).mono ?_;rintro e w3 ⟨rfl,hb3⟩
   have HS3:=Lib.hid (HS2.out.call (HS2.out.P.below hb3) (Turned.of_below hb3))
   clear hb3 HS2
   obtain ⟨kd,u,nm,a⟩:=t
   simp only at HF
   go_wp2_with fail
   refine (fail_any _ _ _).mono ?_;rintro e w4 ⟨rfl,rfl⟩
   exact ⟨rfl,fun _=>⟨by rw [if_pos rfl,HTT.out,HF.out.1,HF.out.2],HS3.out.T⟩,fun h=>absurd HD.out h⟩
 ·have hdd:decide (40 < s.deep) = false:=decide_eq_false hd
  have HD:=Lib.hid hd
  clear hd HH1 HN HBD
  have HS0:=Lib.hid (HS.out.alloc (ndO zero (.slice none 0 0)))
  clear HS
  go_enter Tryz.func148,Tryz.ntmps148
  go_upto_region 1 with fail
  clear q3 f3 hpl
  change Code.wp _ _ _ _ (w.alloc (ndO zero (.slice none 0 0)))
  generalize w.alloc (ndO zero (.slice none 0 0)) = w0 at *
  have hcs:=HS0.out.P.cells
  have q3:=hcs.c3
  have f3:=hcs.f3
  have hpl:=HS0.out.P.lt
  clear hcs
  have HS1:=Lib.hid (HS0.out.setP HS0.out.P.into)
  clear HS0
  go_upto_region 6 with fail
  generalize (w0.setCell _ _) = w1 at *
  clear q3 f3 hpl
  go_wp2_with fail
  refine (HH2.out _ HS1.out.P).mono ?_
  rintro e w2 hnr
  rcases hnr with ⟨t2,ht2,hi2,aw,nw,S,rfl,hk,hS,hP,hT⟩ | ⟨hc,rfl,hT⟩
  rotate_left
  ·go_wp2_with fail
   exact ⟨rfl,fun h=>absurd h (by have:=HD.out;omega),fun _=>.bad hc ⟨rfl,HS1.out.T.trans hT⟩⟩
  ·skip
   have HS2:=Lib.hid (HS1.out.callT hk hS hP hT)
   have HAL:Hid ((t2 = s3 ∨ sT E t2 = s3) ∧ s.i < t2.i):=⟨ht2,hi2⟩
   clear hk hS hP hT HH2 HS1 hdd ht2 hi2
   have hcs:=HS2.out.P.cells
   have q3:=hcs.c3
   have f3:=hcs.f3
   have hpl:=HS2.out.P.lt
   clear hcs
   obtain ⟨r0,r1,r2,r3,r4,rf0,rf1,rf2,rf3,rf4,rl⟩:=HS2.out.c5 0 rfl
   obtain ⟨rn,rm⟩:=HS2.out.ne 0 rfl
   go_wp2_with fail
   have HSF:=Lib.hid (((HS2.out.out).set5 0 rfl (.int .i64 x.kind) (.string ⟨x.text.toArray⟩) (.float .f64 x.num) (.slice aw x.kids.length nw) (.int .i64 x.at')).alloc (ndO x (.slice aw x.kids.length nw)))
   generalize (World.alloc ((((((w2.setCell _ _).setCell _ _).setCell _ _).setCell _ _).setCell _ _).setCell _ _) _) = wf at HSF ⊢
   obtain ⟨z0,z1,z2,z3,z4,zf0,zf1,zf2,zf3,zf4,zl⟩:=HSF.out.c5 1 rfl
   refine bodyPost_ret (v:=ndV x (.slice aw x.kids.length nw)) (by simp [results,Tryz.results148,go_sem,z0,z1,z2,z3,z4]) rfl ?_
   exact ⟨fun h=>absurd h (by have:=HD.out;omega),fun _=>.ok (al_out HAL.out.1) HAL.out.2 (HSF.out.node (List.mem_cons_self ..) x rfl)⟩
set_option maxHeartbeats 2000000 in
theorem deepB (p:Nat) (v:Value) (E:PE) (s:PS) (b:Bool) (s3:PS) (x:Nd) (w:World) (q:Nat)(h:PAt w p v E s)
  (H1:∀ W,Below w.heap.size w W → Calls Tryz.prog 149 #[.pointer (some ⟨q,0,none⟩)] W fun e w'=>e = .returned (.bool b) ∧ Below W.heap.size W w')
  (H2:∀ W,PAt W p v E { s with deep:=wrap64 (s.deep + 1) } → Calls Tryz.prog 150 #[PP p] W (NodeR p v E s.i s3 x W)) :
  Calls Tryz.prog 148 #[PP p,.func (.func 149) #[] #[.pointer (some ⟨q,0,none⟩)],.func (.func 150) #[PP p] #[]] w (DeepR p v E s b s3 x w):=by
 have HN:=Lib.hid (fun W (hW:PAt W p v E s)=>now_any p v E s W hW)
 have HBD:=Lib.hid (fun W (hW:PAt W p v E s)=>bad_any p v E s W hW)
 have HH1:=Lib.hid (fun W=>H1 W)
 have HH2:=Lib.hid (fun W=>H2 W)
 have HS:=Lib.hid (SW.start h)
 have HX:Hid (s.code = 0):=h.c0
 clear H1 H2 h
 have hcs:=HS.out.P.cells
 have q3:=hcs.c3
 have f3:=hcs.f3
 have hpl:=HS.out.P.lt
 clear hcs
 by_cases hd:40 < s.deep
 ·have hdd:decide (40 < s.deep) = true:=decide_eq_true hd
  have HD:=Lib.hid hd
  clear hd HH2
  have HB0:=Lib.hid ((Below.refl w.heap.size w).alloc (Nat.le_refl _) (ndO zero (.slice none 0 0)))
  have HS1:=Lib.hid (HS.out.alloc (ndO zero (.slice none 0 0)))
  clear HS
  go_enter Tryz.func148,Tryz.ntmps148
  go_wp2_with fail
  refine (HH1.out _ HB0.out).mono ?_;rintro e w2 ⟨rfl,hb2⟩
  have HS2:=Lib.hid (HS1.out.call (HS1.out.P.below hb2) (Turned.of_below hb2))
  clear hb2 HH1 HS1 HB0 q3 f3
  cases b with
  | false =>
   go_wp2_with fail
   refine (HBD.out _ HS2.out.P).mono ?_;rintro e w3 ⟨rfl,hT⟩
   exact ⟨rfl,fun _=>⟨rfl,HS2.out.T.trans hT⟩,fun h=>absurd HD.out h⟩
  | true =>
   obtain ⟨t,ht⟩:∃ t,pn E s = t:=⟨_,rfl⟩
   have HTT:=Lib.hid ht
   rw [ht] at HN
   clear ht
   have HF:=Lib.hid (flt_at s 1901 t.at' HX.out)
   go_wp2_with fail
   refine (HN.out _ HS2.out.P).mono ?_;rintro e w3 ⟨rfl,hb3⟩
   have HS3:=Lib.hid (HS2.out.call (HS2.out.P.below hb3) (Turned.of_below hb3))
   clear hb3 HS2
   obtain ⟨kd,u,nm,a⟩:=t
   simp only at HF
   go_wp2_with fail
   refine (fail_any _ _ _).mono ?_;rintro e w4 ⟨rfl,rfl⟩
   exact ⟨rfl,fun _=>⟨by rw [if_pos rfl,HTT.out,HF.out.1,HF.out.2],HS3.out.T⟩,fun h=>absurd HD.out h⟩
 ·have hdd:decide (40 < s.deep) = false:=decide_eq_false hd
  have HD:=Lib.hid hd
  clear hd HH1 HN HBD
  have HS0:=Lib.hid (HS.out.alloc (ndO zero (.slice none 0 0)))
  clear HS
  go_enter Tryz.func148,Tryz.ntmps148
  go_upto_region 1 with fail
  clear q3 f3 hpl
  change Code.wp _ _ _ _ (w.alloc (ndO zero (.slice none 0 0)))
  generalize w.alloc (ndO zero (.slice none 0 0)) = w0 at *
  have hcs:=HS0.out.P.cells
  have q3:=hcs.c3
  have f3:=hcs.f3
  have hpl:=HS0.out.P.lt
  clear hcs
  have HS1:=Lib.hid (HS0.out.setP HS0.out.P.into)
  clear HS0
  go_upto_region 6 with fail
  generalize (w0.setCell _ _) = w1 at *
  clear q3 f3 hpl
  go_wp2_with fail
  refine (HH2.out _ HS1.out.P).mono ?_
  rintro e w2 hnr
  rcases hnr with ⟨t2,ht2,hi2,aw,nw,S,rfl,hk,hS,hP,hT⟩ | ⟨hc,rfl,hT⟩
  rotate_left
  ·go_wp2_with fail
   exact ⟨rfl,fun h=>absurd h (by have:=HD.out;omega),fun _=>.bad hc ⟨rfl,HS1.out.T.trans hT⟩⟩
  ·skip
   have HS2:=Lib.hid (HS1.out.callT hk hS hP hT)
   have HAL:Hid ((t2 = s3 ∨ sT E t2 = s3) ∧ s.i < t2.i):=⟨ht2,hi2⟩
   clear hk hS hP hT HH2 HS1 hdd ht2 hi2
   have hcs:=HS2.out.P.cells
   have q3:=hcs.c3
   have f3:=hcs.f3
   have hpl:=HS2.out.P.lt
   clear hcs
   obtain ⟨r0,r1,r2,r3,r4,rf0,rf1,rf2,rf3,rf4,rl⟩:=HS2.out.c5 0 rfl
   obtain ⟨rn,rm⟩:=HS2.out.ne 0 rfl
   go_wp2_with fail
   have HSF:=Lib.hid (((HS2.out.out).set5 0 rfl (.int .i64 x.kind) (.string ⟨x.text.toArray⟩) (.float .f64 x.num) (.slice aw x.kids.length nw) (.int .i64 x.at')).alloc (ndO x (.slice aw x.kids.length nw)))
   generalize (World.alloc ((((((w2.setCell _ _).setCell _ _).setCell _ _).setCell _ _).setCell _ _).setCell _ _) _) = wf at HSF ⊢
   obtain ⟨z0,z1,z2,z3,z4,zf0,zf1,zf2,zf3,zf4,zl⟩:=HSF.out.c5 1 rfl
   refine bodyPost_ret (v:=ndV x (.slice aw x.kids.length nw)) (by simp [results,Tryz.results148,go_sem,z0,z1,z2,z3,z4]) rfl ?_
   exact ⟨fun h=>absurd h (by have:=HD.out;omega),fun _=>.ok (al_out HAL.out.1) HAL.out.2 (HSF.out.node (List.mem_cons_self ..) x rfl)⟩
end Go.Proofs.YtmfpmandkhiknaaGreatDoor.qar
namespace Go.Proofs.YtmfpmandkhiknaaGreatDoor.par
open Go Go.RowKit
open lex (Tk)
theorem wrong_sT2 (E:PE) (s:PS):wrong E (sT E s) = wrong E s:=by unfold wrong;rw [sT_sT,tk_sT]
theorem wrong_deep (E:PE) (s:PS) (d:Int):(wrong E { s with deep:=d }).code = (wrong E s).code ∧ (wrong E { s with deep:=d }).bad = (wrong E s).bad:=by
 obtain ⟨i,c,b,dp⟩:=s
 unfold wrong sT tk pT
 by_cases h:c = 0
 ·subst h
  simp only [ne_eq,not_true_eq_false,if_false]
  cases E.ts[i]? with
  | some t=>exact ⟨rfl,rfl⟩
  | none =>
   simp only [flt,if_true]
   by_cases hl:E.lex = 0
   ·simp only [hl,if_true,and_self]
   ·simp only [hl,if_false,and_self]
 ·simp only [ne_eq,h,not_false_eq_true,if_true,flt,if_false,and_self]
theorem tk_deep (E:PE) (s:PS) (d:Int):tk E { s with deep:=d } = tk E s:=by
 obtain ⟨i,c,b,dp⟩:=s
 unfold tk pT
 by_cases h:c = 0
 ·subst h
  simp only [ne_eq,not_true_eq_false,if_false]
  cases E.ts[i]? <;> rfl
 ·simp only [ne_eq,h,not_false_eq_true,if_true]
theorem begins_parts {E:PE} {s:PS} (h:begins E s = false):(tk E s).kind ≠ 2 ∧ (tk E s).kind ≠ 3 ∧ isS E [40] s = false ∧ isS E [45] s = false ∧ isS E [33] s = false ∧ ((tk E s).kind = 1 → called E s = false ∧ kept (tk E s).text = true):=by
 unfold begins at h
 simp only [Bool.or_eq_false_iff] at h
 obtain ⟨⟨⟨⟨⟨h1,h2⟩,h3⟩,h4⟩,h5⟩,h6⟩:=h
 refine ⟨by simpa using h1,by simpa using h2,h3,h4,h5,fun hk => ?_⟩
 rw [hk] at h6
 simpa using h6
theorem called_sT2 (E:PE) (s:PS):called E (sT E s) = called E s:=by unfold called;rw [sT_i]
theorem begins_sT2 (E:PE) (s:PS):begins E (sT E s) = begins E s:=by
 unfold begins called
 rw [tk_sT,isS_sT,isS_sT,isS_sT,sT_i]
theorem nb_primary {E:PE} {s:PS} (h:begins E s = false) {f:Nat} {ks:List Nd} {s2:PS} (hr:run E f .primary s = some (ks,s2)):ks = [zero] ∧ s2 = wrong E s:=by
 obtain ⟨h1,h2,h3,h4,h5,h6⟩:=begins_parts h
 cases f with
 | zero=>rw [run] at hr;cases hr
 | succ f =>
  rw [run,if_neg h1,if_neg h2,if_neg (by rw [h3];decide),if_neg (by rw [called_sT2];exact fun hc=>absurd hc.2 (by rw [(h6 hc.1).1];decide)),if_neg (fun hc=>absurd hc.2 (by rw [(h6 hc.1).2];decide))] at hr
  cases hr
  exact ⟨rfl,wrong_sT2 E s⟩
theorem nb_unary {E:PE} {s:PS} (h:begins E s = false) {f:Nat} {ks:List Nd} {s2:PS} (hr:run E f .unary s = some (ks,s2)):ks = [zero] ∧ s2 = wrong E s:=by
 obtain ⟨h1,h2,h3,h4,h5,h6⟩:=begins_parts h
 cases f with
 | zero=>rw [run] at hr;cases hr
 | succ f =>
  rw [run,if_neg (by rw [h4,h5];decide)] at hr
  obtain ⟨h7,h8⟩:=nb_primary (s:=sT E s) (by rw [begins_sT2];exact h) hr
  exact ⟨h7,by rw [h8,wrong_sT2]⟩
theorem nb_bin {E:PE} {s:PS} (h:begins E s = false):∀ (f l:Nat) (ks:List Nd) (s2:PS),run E f (.bin l) s = some (ks,s2) → ks = [zero] ∧ s2 = wrong E s:=by
 intro f
 induction f with
 | zero=>intro l ks s2 hr;rw [run] at hr;cases hr
 | succ f ih =>
  intro l ks s2 hr
  rw [run] at hr
  split at hr
  ·exact nb_unary h hr
  ·cases hr1:run E f (.bin (l + 1)) s with
   | none=>rw [hr1] at hr;cases hr
   | some r =>
    obtain ⟨ks1,s1⟩:=r
    obtain ⟨rfl,rfl⟩:=ih _ _ _ hr1
    rw [hr1] at hr
    simp only at hr
    cases f with
    | zero=>rw [run] at hr;cases hr
    | succ f =>
     rw [run,if_pos (wrong_code E s)] at hr
     cases hr
     exact ⟨rfl,rfl⟩
theorem must_sT2 (E:PE) (g:List UInt8) (s:PS):must E g (sT E s) = must E g s:=by unfold must;rw [isS_sT,sT_sT]
theorem isAny_sT2 (E:PE) (l:Nat) (s:PS):isAny E l (sT E s) = isAny E l s:=by unfold isAny;simp only [isS_sT]
theorem isAny_at {E:PE} {l:Nat} {s:PS} (h:isAny E l s = true):(tk E s).kind = 4:=by
 obtain ⟨g,-,hg⟩:=List.any_eq_true.1 h
 exact (isS_kind hg).1
theorem two_sT2 (E:PE) (s:PS):two E (sT E s) = two E s:=by unfold two;rw [sT_sT,sT_i]
theorem run_sT2 (E:PE):∀ (f:Nat) (j:Job) (s:PS),(∀ ks,j ≠ .blockL ks) → run E f j (sT E s) = run E f j s:=by
 intro f
 induction f with
 | zero=>intro j s hj;rw [run,run]
 | succ f ih =>
  intro j s hj
  cases j with
  | bin l=>rw [run,run,ih .unary s (fun ks h=>by cases h),ih (.bin (l + 1)) s (fun ks h=>by cases h)]
  | binL l x =>
   by_cases h0:s.code = 0
   ·by_cases h1:(sT E s).code = 0
    ·rw [run,run,if_neg (show ¬ (sT E s).code ≠ 0 from fun h=>h h1),if_neg (show ¬ s.code ≠ 0 from fun h=>h h0),isAny_sT2,tk_sT,sT_sT]
    ·have hn:¬ isAny E l s = true:=by
      intro h
      have:=(tk_kind (by rw [isAny_at h];decide)).2.2
      rw [this] at h1
      exact h1 h0
     rw [run,run,if_pos h1,if_neg (show ¬ s.code ≠ 0 from fun h=>h h0),if_neg hn]
   ·have:sT E s = s:=by unfold sT;rw [pT_bad h0]
    rw [this]
  | unary=>rw [run,run,isS_sT,isS_sT,sT_sT,tk_sT]
  | inner=>rw [run,run,begins_sT2,sT_sT,tk_sT]
  | primary=>rw [run,run,isS_sT,sT_sT,tk_sT,two_sT2]
  | args ks=>rw [run,run,isS_sT,sT_sT]
  | block=>rw [run,run,isS_sT,sT_sT,tk_sT]
  | blockL ks=>exact absurd rfl (hj ks)
  | stmt=>rw [run,run,isW_sT,isW_sT,isW_sT,isW_sT,isW_sT,sT_sT,tk_sT]
def Al (E:PE) (t s:PS):Prop:=t = s ∨ sT E t = s
theorem Al.run {E:PE} {t s:PS} (h:Al E t s) (f:Nat) (j:Job) (hj:∀ ks,j ≠ .blockL ks):par.run E f j s = par.run E f j t:=by
 rcases h with rfl | rfl
 ·rfl
 ·exact run_sT2 E f j t hj
theorem Al.must {E:PE} {t s:PS} (h:Al E t s) (g:List UInt8):par.must E g s = par.must E g t:=by
 rcases h with rfl | rfl
 ·rfl
 ·exact must_sT2 E g t
theorem Al.isS {E:PE} {t s:PS} (h:Al E t s) (g:List UInt8):par.isS E g s = par.isS E g t:=by
 rcases h with rfl | rfl
 ·rfl
 ·exact isS_sT E g t
theorem Al.isW {E:PE} {t s:PS} (h:Al E t s) (g:List UInt8):par.isW E g s = par.isW E g t:=by
 rcases h with rfl | rfl
 ·rfl
 ·exact isW_sT E g t
theorem Al.sT {E:PE} {t s:PS} (h:Al E t s):par.sT E s = par.sT E t:=by
 rcases h with rfl | rfl
 ·rfl
 ·exact sT_sT E t
theorem Al.tk {E:PE} {t s:PS} (h:Al E t s):par.tk E s = par.tk E t:=by
 rcases h with rfl | rfl
 ·rfl
 ·exact tk_sT E t
def deepen (s:PS):PS:=⟨s.i,s.code,s.bad,wrap64 (s.deep + 1)⟩
def inner2 (E:PE) (f:Nat) (j:Job) (s:PS):Option (List Nd × PS):=
 if begins E s then (if (into (sT E s) (tk E s).at').1 then (match run E f j (into (sT E s) (tk E s).at').2 with
    | some ([x],s2)=>some ([x],out s2)
    | _=>none)
   else some ([zero],(into (sT E s) (tk E s).at').2))
  else some ([zero],wrong E (sT E s))
theorem run_inner (E:PE) (f:Nat) (s:PS):run E (f + 1) .inner s = inner2 E f (.bin 0) s:=by rw [run];rfl
theorem into_i (s:PS) (a:Int):(into s a).2.i = s.i:=by
 unfold into
 split
 ·exact flt_i _ _ _
 ·rfl
theorem al_i {E:PE} {t s:PS} (h:Al E t s):s.i = t.i:=by
 rcases h with rfl | rfl
 ·rfl
 ·exact sT_i E t
theorem unary_parts {E:PE} {s s2:PS} {x:Nd} {f:Nat} (hsg:(isS E [45] s || isS E [33] s) = true) (hr:run E (f + 1) .unary s = some ([x],s2)) :
  ∃ y0,inner2 E f .unary (inc (sT E s)) = some ([y0],s2) ∧ (s.i + 1 < s2.i → x = .mk 17 (tk E s).text 0 [y0] (tk E s).at'):=by
 rw [run,if_pos hsg] at hr
 unfold inner2
 have hi:(inc (sT E s)).i = s.i + 1:=by show (sT E s).i + 1 = _;rw [sT_i]
 by_cases hb:begins E (inc (sT E s)) = true
 ·rw [if_pos hb] at hr ⊢
  by_cases hi2:(into (sT E (inc (sT E s))) (tk E (inc (sT E s))).at').1 = true
  ·rw [if_pos hi2] at hr ⊢
   cases h1:run E f .unary (into (sT E (inc (sT E s))) (tk E (inc (sT E s))).at').2 with
   | none=>rw [h1] at hr;cases hr
   | some r =>
    obtain ⟨ks,s3⟩:=r
    rw [h1] at hr
    match ks,hr with
    | [y],hr =>
     simp only at hr ⊢
     cases hr
     exact ⟨_,rfl,fun _=>rfl⟩
    | [],hr=>cases hr
    | _ :: _ :: _,hr=>cases hr
  ·rw [if_neg hi2] at hr ⊢
   cases hr
   exact ⟨_,rfl,fun h=>absurd h (by rw [into_i,sT_i,hi];omega)⟩
 ·rw [if_neg hb] at hr ⊢
  cases hr
  exact ⟨_,rfl,fun h=>absurd h (by rw [wrong_i,sT_i,hi];omega)⟩
end Go.Proofs.YtmfpmandkhiknaaGreatDoor.par
namespace Go.Proofs.YtmfpmandkhiknaaGreatDoor.qar
open par
open Go.RowKit
open heap
open lex (Tk TRow TkAt run_store_float add0)
set_option maxRecDepth 100000
attribute [local go_sem] run_store_float field_tok0 field_tok1 field_tok3
set_option maxHeartbeats 1000000 in
theorem inE (p:Nat) (v:Value) (E:PE) (s s2:PS) (y:Nd) (w:World) (h:PAt w p v E s)
  (H:∀ W,PAt W p v E s → Calls Tryz.prog 148 #[PP p,.func (.func 244) #[PP p] #[],.func (.func 108) #[PP p] #[]] W (NodeR p v E s.i s2 y W)) :
  Calls Tryz.prog 235 #[PP p,.func (.func 108) #[PP p] #[]] w (NodeR p v E s.i s2 y w):=by
 have HS:=Lib.hid ((SW.start h).alloc (ndO zero (.slice none 0 0)))
 have HJ:=Lib.hid (fun W=>H W)
 clear H h
 go_enter Tryz.func235,Tryz.ntmps235
 go_wp2_with fail
 refine (HJ.out _ HS.out.P).mono ?_
 rintro e w2 hnr
 rcases hnr with ⟨tw2,htw2,hiw2,aw2,nw2,Sw2,rfl,hk,hS,hP,hT⟩ | ⟨hc,rfl,hT⟩
 rotate_left
 ·go_wp2_with fail
  exact ⟨rfl,.thr hc ⟨rfl,hT⟩ (HS.out).T (Stk.refl _)⟩
 have HS2:=Lib.hid (HS.out.callT hk hS hP hT)
 have HAw2:=Lib.hid (And.intro htw2 hiw2)
 clear hk hS hP hT htw2 hiw2
 obtain ⟨r0,r1,r2,r3,r4,rf0,rf1,rf2,rf3,rf4,rl⟩:=HS2.out.c5 0 rfl
 go_wp2_with fail
 have HSF:=Lib.hid (HS2.out.set5 0 rfl (.int .i64 y.kind) (.string ⟨y.text.toArray⟩) (.float .f64 y.num) (.slice aw2 y.kids.length nw2) (.int .i64 y.at'))
 generalize (((((w2.setCell _ _).setCell _ _).setCell _ _).setCell _ _).setCell _ _) = wf at HSF ⊢
 obtain ⟨z0,z1,z2,z3,z4,zf0,zf1,zf2,zf3,zf4,zl⟩:=HSF.out.c5 0 rfl
 refine bodyPost_ret (v:=ndV y (.slice aw2 y.kids.length nw2)) (by simp [results,Tryz.results235,go_sem,z0,z1,z2,z3,z4]) rfl ?_
 exact .ok HAw2.out.1 HAw2.out.2 (HSF.out.node (List.mem_cons_self ..) y rfl)
set_option maxHeartbeats 1000000 in
theorem inU (p:Nat) (v:Value) (E:PE) (s s2:PS) (y:Nd) (w:World) (h:PAt w p v E s)
  (H:∀ W,PAt W p v E s → Calls Tryz.prog 148 #[PP p,.func (.func 244) #[PP p] #[],.func (.func 219) #[PP p] #[]] W (NodeR p v E s.i s2 y W)) :
  Calls Tryz.prog 235 #[PP p,.func (.func 219) #[PP p] #[]] w (NodeR p v E s.i s2 y w):=by
 have HS:=Lib.hid ((SW.start h).alloc (ndO zero (.slice none 0 0)))
 have HJ:=Lib.hid (fun W=>H W)
 clear H h
 go_enter Tryz.func235,Tryz.ntmps235
 go_wp2_with fail
 refine (HJ.out _ HS.out.P).mono ?_
 rintro e w2 hnr
 rcases hnr with ⟨tw2,htw2,hiw2,aw2,nw2,Sw2,rfl,hk,hS,hP,hT⟩ | ⟨hc,rfl,hT⟩
 rotate_left
 ·go_wp2_with fail
  exact ⟨rfl,.thr hc ⟨rfl,hT⟩ (HS.out).T (Stk.refl _)⟩
 have HS2:=Lib.hid (HS.out.callT hk hS hP hT)
 have HAw2:=Lib.hid (And.intro htw2 hiw2)
 clear hk hS hP hT htw2 hiw2
 obtain ⟨r0,r1,r2,r3,r4,rf0,rf1,rf2,rf3,rf4,rl⟩:=HS2.out.c5 0 rfl
 go_wp2_with fail
 have HSF:=Lib.hid (HS2.out.set5 0 rfl (.int .i64 y.kind) (.string ⟨y.text.toArray⟩) (.float .f64 y.num) (.slice aw2 y.kids.length nw2) (.int .i64 y.at'))
 generalize (((((w2.setCell _ _).setCell _ _).setCell _ _).setCell _ _).setCell _ _) = wf at HSF ⊢
 obtain ⟨z0,z1,z2,z3,z4,zf0,zf1,zf2,zf3,zf4,zl⟩:=HSF.out.c5 0 rfl
 refine bodyPost_ret (v:=ndV y (.slice aw2 y.kids.length nw2)) (by simp [results,Tryz.results235,go_sem,z0,z1,z2,z3,z4]) rfl ?_
 exact .ok HAw2.out.1 HAw2.out.2 (HSF.out.node (List.mem_cons_self ..) y rfl)
theorem begins_kind {E:PE} {s:PS} (h:begins E s = true):(tk E s).kind ≠ 0:=by
 intro hk
 unfold begins isS at h
 rw [hk] at h
 simp at h
theorem deep_node {E:PE} {s s2:PS} {y:Nd} {f:Nat} {j:Job} {p:Nat} {v:Value} (h0:s.code = 0)
  (hr:inner2 E f j s = some ([y],s2)) (x:Nd) (s3:PS) (hx:run E f j (deepen s) = some ([x],s3))
  (nb:∀ t,begins E t = false → ∀ ks t2,run E f j t = some (ks,t2) → ks = [zero] ∧ t2 = wrong E t)
  (w w':World) (e:Ending) (h:DeepR p v E s (begins E s) s3 x w e w'):NodeR p v E s.i s2 y w e w':=by
 obtain ⟨hA,hB⟩:=h
 unfold inner2 at hr
 have hx:run E f j { s with deep:=wrap64 (s.deep + 1) } = some ([x],s3):=hx
 cases hb:begins E s with
 | true =>
  obtain ⟨-,-,hs⟩:=tk_kind (begins_kind hb)
  have hpn:pn E s = tk E s:=(pn_tk h0 (begins_kind hb)).1
  rw [hb,if_pos rfl,hs] at hr
  rw [hb,if_pos rfl,hpn] at hA
  by_cases hd:40 < s.deep
  ·have hi:into s (tk E s).at' = (false,flt s 1901 (tk E s).at'):=if_pos hd
   rw [hi] at hr
   cases hr
   exact .bad (flt_code _ _ _ (by decide)) (hA hd)
  ·have hi:into s (tk E s).at' = (true,{ s with deep:=wrap64 (s.deep + 1) }):=if_neg hd
   rw [hi] at hr
   simp only [if_true] at hr
   rw [hx] at hr
   cases hr
   exact hB hd
 | false =>
  rw [hb,if_neg (by decide),wrong_sT] at hr
  cases hr
  rw [hb,if_neg (by decide)] at hA
  by_cases hd:40 < s.deep
  ·exact .bad (wrong_code E s) (hA hd)
  ·have hnb:begins E { s with deep:=wrap64 (s.deep + 1) } = false:=by
    rw [← hb]
    unfold begins isS called
    rw [tk_deep]
   obtain ⟨-,rfl⟩:=nb _ hnb _ _ hx
   obtain ⟨w1,w2⟩:=wrong_deep E s (wrap64 (s.deep + 1))
   rcases hB hd with ⟨t,ht,hi,-⟩ | ⟨hc,hT⟩
   ·exfalso
    have h1:(out (wrong E { s with deep:=wrap64 (s.deep + 1) })).i = s.i:=wrong_i _ _
    rcases ht with rfl | ht
    ·omega
    ·have:=sT_i E t
     rw [ht] at this
     omega
   ·exact .bad (wrong_code E s) (hT.of w1.symm w2.symm)
end Go.Proofs.YtmfpmandkhiknaaGreatDoor.qar
