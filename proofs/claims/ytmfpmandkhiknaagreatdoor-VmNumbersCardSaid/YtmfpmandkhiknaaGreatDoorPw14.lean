/-
  Proved: what keeps the block of the document's parser, its locals, the trees that it holds. Conditions: as each theorem says.
  Proved: what the small methods of the document's parser return (fault, t, wrong, sign, word, must, text, name, into). Conditions: as each theorem says.
  Proved: which guarded operations of a drawn region are wanted. Conditions: as each theorem says. No program is in sight.
-/
import Derived.Test.YtmfpmandkhiknaaGreatDoorPw6
import Derived.Test.YtmfpmandkhiknaaGreatDoorPw8
import Derived.StillTailTactics
import Derived.Test.YtmfpmandkhiknaaGreatDoorPw2
set_option linter.unusedVariables false
set_option linter.unusedSimpArgs false
namespace Go.Proofs.YtmfpmandkhiknaaGreatDoor.par
open Go.RowKit
open heap
open lex (Tk TRow TkAt run_store_float add0)
set_option maxRecDepth 100000
theorem below_drewN {B:Nat} {a w:World} (h:Below B a w) (n:Nat):Below B a (w.drewN n):=h.trans ⟨rfl,rfl,rfl,Nat.le_refl _,fun _ _=>rfl⟩
abbrev PP (p:Nat):Value:=.pointer (some ⟨p,0,none⟩)
abbrev tnV (t:Tn):Value:=.agg #[.int .i64 t.kind,.string ⟨t.text.toArray⟩,.float .f64 t.num,.int .i64 t.at']
abbrev tnO (t:Tn):Obj:=.cells #[.int .i64 t.kind,.string ⟨t.text.toArray⟩,.float .f64 t.num,.int .i64 t.at'] 98 (0,0)
abbrev ndO (x:Nd) (c:Value):Obj:=.cells #[.int .i64 x.kind,.string ⟨x.text.toArray⟩,.float .f64 x.num,c,.int .i64 x.at'] 61 (0,0)
abbrev pO (v:Value) (E:PE) (s:PS):Obj:=.cells #[v,.int .i64 (s.i:Nat),.int .i64 E.lat,.int .i64 E.lex,.int .i64 s.code,.int .i64 s.bad,.int .i64 s.deep] 102 (0,0)
structure PAt (w:World) (p:Nat) (v:Value) (E:PE) (s:PS):Prop where
 blk:w.heap[p]? = some (pO v E s)
 row:TRow w 0 v E.ts
 len:E.ts.length ≤ 100000
 le:s.i ≤ E.ts.length
theorem PAt.lt {w:World} {p:Nat} {v:Value} {E:PE} {s:PS} (h:PAt w p v E s):p < w.heap.size:=blk_lt h.blk
theorem PAt.own {w:World} {p:Nat} {v:Value} {E:PE} {s:PS} (h:PAt w p v E s):p ∉ v.ownBlock.toList:=by
 intro hm
 obtain ⟨_,⟨hv,_⟩ | ⟨g,c,cur,rfl,h3,h4,_⟩⟩:=h.row
 ·rw [hv] at hm;simp [Value.ownBlock] at hm
 ·have hg:p = g:=by simpa [Value.ownBlock] using hm
  subst hg
  rw [h.blk] at h4
  simp at h4
theorem PAt.own_lt {w:World} {p:Nat} {v:Value} {E:PE} {s:PS} (h:PAt w p v E s):∀ g ∈ v.ownBlock.toList,g < w.heap.size:=fun g hg=>(World.ownsRow.lt h.row g (by simpa using hg)).2
theorem PAt.below {w w':World} {p:Nat} {v:Value} {E:PE} {s:PS} (h:PAt w p v E s) (hb:Below w.heap.size w w'):PAt w' p v E s:=⟨blk_below h.blk hb,h.row.below hb,h.len,h.le⟩
theorem PAt.alloc {w:World} {p:Nat} {v:Value} {E:PE} {s:PS} (h:PAt w p v E s) (o:Obj):PAt (w.alloc o) p v E s:=h.below ((Below.refl _ _).alloc (Nat.le_refl _) _)
theorem PAt.drew {w:World} {p:Nat} {v:Value} {E:PE} {s:PS} (h:PAt w p v E s):PAt w.drew p v E s:=⟨h.blk,h.row,h.len,h.le⟩
theorem PAt.kept {w w':World} {p:Nat} {v:Value} {E:PE} {s:PS} (h:PAt w p v E s) {S:List Nat} (ht:Turned S w w') (hp:p ∉ S) (hv:∀ g ∈ v.ownBlock.toList,g ∉ S):PAt w' p v E s:=
 ⟨ht.kept h.blk hp,lex.trow_kept h.row (fun g o hg ho=>ht.kept ho (hv g (by simpa using hg))),h.len,h.le⟩
theorem PAt.other {w:World} {p:Nat} {v:Value} {E:PE} {s:PS} (h:PAt w p v E s) {b:Nat} (i:Nat) (u:Value) (hp:b ≠ p) (hv:b ∉ v.ownBlock.toList):PAt (w.setCell ⟨b,i,none⟩ u) p v E s:=
 h.kept (S := [b]) ((Turned.refl _ _).setCell (by simp) _) (by simp; exact fun e => hp e.symm) (fun g hg hm => hv (by have : g = b := by simpa using hm
                                                                                                                      rw [← this];exact hg))
theorem PAt.set {w:World} {p:Nat} {v:Value} {E:PE} {s s2:PS} (h:PAt w p v E s) (j:Nat) (u:Value) (hj:(#[v,Value.int .i64 (s.i:Nat),.int .i64 E.lat,.int .i64 E.lex,.int .i64 s.code,.int .i64 s.bad,.int .i64 s.deep]).setIfInBounds j u = #[v,.int .i64 (s2.i:Nat),.int .i64 E.lat,.int .i64 E.lex,.int .i64 s2.code,.int .i64 s2.bad,.int .i64 s2.deep])
  (hi:s2.i ≤ E.ts.length):PAt (w.setCell ⟨p,j,none⟩ u) p v E s2:=by
 refine ⟨?_,?_,h.len,hi⟩
 ·have:=blk_set h.blk j u
  rw [hj] at this
  exact this
 ·refine lex.trow_kept h.row (fun g o hg ho => ?_)
  have hne:g ≠ p:=fun e=>h.own (by subst e;simpa using hg)
  rw [blk_other hne];exact ho
theorem PAt.inc {w:World} {p:Nat} {v:Value} {E:PE} {s:PS} (h:PAt w p v E s) (hi:s.i < E.ts.length):PAt (w.setCell ⟨p,1,none⟩ (.int .i64 ((s.i:Int) + 1))) p v E (inc s):=h.set 1 _ rfl hi
theorem PAt.inc2 {w:World} {p:Nat} {v:Value} {E:PE} {s:PS} (h:PAt w p v E s) (hi:s.i + 2 ≤ E.ts.length):PAt (w.setCell ⟨p,1,none⟩ (.int .i64 ((s.i:Int) + 2))) p v E ⟨s.i + 2,s.code,s.bad,s.deep⟩:=h.set 1 _ rfl hi
theorem PAt.deep {w:World} {p:Nat} {v:Value} {E:PE} {s:PS} (h:PAt w p v E s) (d:Int):PAt (w.setCell ⟨p,6,none⟩ (.int .i64 d)) p v E { s with deep:=d }:=h.set 6 _ rfl h.le
theorem PAt.out {w:World} {p:Nat} {v:Value} {E:PE} {s:PS} (h:PAt w p v E s):PAt (w.setCell ⟨p,6,none⟩ (.int .i64 (wrap64 (s.deep - 1)))) p v E (out s):=h.deep _
theorem PAt.fault {w:World} {p:Nat} {v:Value} {E:PE} {s:PS} (h:PAt w p v E s) (c a:Int) (h0:s.code = 0):PAt ((w.setCell ⟨p,4,none⟩ (.int .i64 c)).setCell ⟨p,5,none⟩ (.int .i64 a)) p v E (flt s c a):=by
 have hf:flt s c a = { s with code:=c,bad:=a }:=if_pos h0
 rw [hf]
 exact (h.set (s2:={ s with code:=c }) 4 _ rfl h.le).set 5 _ rfl h.le
structure PCell (w:World) (p:Nat) (v:Value) (E:PE) (s:PS):Prop where
 c0:w.cell? ⟨p,0,none⟩ = some v
 c1:w.cell? ⟨p,1,none⟩ = some (.int .i64 (s.i:Nat))
 c2:w.cell? ⟨p,2,none⟩ = some (.int .i64 E.lat)
 c3:w.cell? ⟨p,3,none⟩ = some (.int .i64 E.lex)
 c4:w.cell? ⟨p,4,none⟩ = some (.int .i64 s.code)
 c5:w.cell? ⟨p,5,none⟩ = some (.int .i64 s.bad)
 c6:w.cell? ⟨p,6,none⟩ = some (.int .i64 s.deep)
 f1:w.frozen? ⟨p,1,none⟩ = false
 f4:w.frozen? ⟨p,4,none⟩ = false
 f5:w.frozen? ⟨p,5,none⟩ = false
 f6:w.frozen? ⟨p,6,none⟩ = false
theorem PAt.cells {w:World} {p:Nat} {v:Value} {E:PE} {s:PS} (h:PAt w p v E s):PCell w p v E s:=
 have h1:=h.blk
 ⟨by rw [blk_cell h1];rfl,by rw [blk_cell h1];rfl,by rw [blk_cell h1];rfl,by rw [blk_cell h1];rfl,by rw [blk_cell h1];rfl,by rw [blk_cell h1];rfl,by rw [blk_cell h1];rfl,blk_free h1 _,blk_free h1 _,blk_free h1 _,blk_free h1 _⟩
structure Tr where
 ks:List Nd
 v:Value
 S:List Nat
def Tr.ok (w:World) (k:Tr):Prop:=∃ d,KV 61 w (d + 1) k.ks k.v k.S
theorem Tr.ok.turned {w w':World} {k:Tr} {R:List Nat} (h:k.ok w) (ht:Turned R w w') (hd:∀ b ∈ k.S,b ∉ R):k.ok w':=by
 obtain ⟨d,hd'⟩:=h
 exact ⟨d,hd'.turned ht hd⟩
theorem Tr.ok.lt {w:World} {k:Tr} (h:k.ok w):∀ b ∈ k.S,b < w.heap.size:=by
 obtain ⟨d,hd'⟩:=h
 exact hd'.lt _
theorem Tr.nil (w:World):(Tr.mk [] (.slice none 0 0) []).ok w:=⟨0,KV.nil _ _ _⟩
structure SW (w W:World) (p:Nat) (v:Value) (E:PE) (s:PS) (L:List (Nat × Obj)) (K:List Tr):Prop where
 P:PAt W p v E s
 T:Turned [p] w W
 plt:p < w.heap.size
 own:∀ g ∈ v.ownBlock.toList,g < w.heap.size
 loc:∀ l ∈ L,w.heap.size ≤ l.1 ∧ W.heap[l.1]? = some l.2
 trees:∀ k ∈ K,k.ok W ∧ ∀ b ∈ k.S,w.heap.size ≤ b
 ndl:L.Pairwise (fun a b=>a.1 ≠ b.1)
 dis:∀ l ∈ L,∀ k ∈ K,l.1 ∉ k.S
 ndk:K.Pairwise (fun a b=>∀ x ∈ a.S,x ∉ b.S)
section
variable {w W:World} {p:Nat} {v:Value} {E:PE} {s:PS} {L:List (Nat × Obj)} {K:List Tr}
theorem SW.start (h:PAt w p v E s):SW w w p v E s [] []:=
 ⟨h,Turned.refl _ _,h.lt,h.own_lt,by simp,by simp,.nil,by simp,.nil⟩
theorem SW.alloc (h:SW w W p v E s L K) (o:Obj):SW w (W.alloc o) p v E s ((W.heap.size,o) :: L) K:=by
 have hb:Below W.heap.size W (W.alloc o):=(Below.refl _ _).alloc (Nat.le_refl _) _
 refine ⟨h.P.alloc o,h.T.alloc o,h.plt,h.own,fun l hl => ?_,fun k hk=>⟨(h.trees k hk).1.turned (R := []) (Turned.of_below hb) (by simp),(h.trees k hk).2⟩,.cons (fun l hl => ?_) h.ndl,fun l hl k hk => ?_,h.ndk⟩
 ·rcases List.mem_cons.1 hl with rfl | hl
  ·exact ⟨h.T.size,blk_new _ _⟩
  ·exact ⟨(h.loc l hl).1,blk_old (h.loc l hl).2 _⟩
 ·have:=blk_lt (h.loc l hl).2
  exact fun e=>by simp only at e;omega
 ·rcases List.mem_cons.1 hl with rfl | hl
  ·intro hm
   have:=(h.trees k hk).1.lt _ hm
   simp only at this;omega
  ·exact h.dis l hl k hk
theorem SW.drew (h:SW w W p v E s L K):SW w W.drew p v E s L K:=
 ⟨h.P.drew,h.T.drew,h.plt,h.own,h.loc,fun k hk=>⟨(h.trees k hk).1.turned (R := []) (w':=W.drew) ((Turned.refl _ _).drew) (by simp),(h.trees k hk).2⟩,h.ndl,h.dis,h.ndk⟩
theorem SW.drewN (h:SW w W p v E s L K) (n:Nat):SW w (W.drewN n) p v E s L K:=by
 have hb:Below W.heap.size W (W.drewN n):=below_drewN (Below.refl _ _) n
 exact ⟨h.P.below hb,h.T.trans (Turned.of_below hb),h.plt,h.own,fun l hl=>⟨(h.loc l hl).1,blk_below (h.loc l hl).2 hb⟩,fun k hk=>⟨(h.trees k hk).1.turned (R := []) (Turned.of_below hb) (by simp),(h.trees k hk).2⟩,h.ndl,h.dis,h.ndk⟩
theorem SW.call {W':World} {s':PS} (h:SW w W p v E s L K) (hP:PAt W' p v E s') (hT:Turned [p] W W'):SW w W' p v E s' L K:=
 ⟨hP,h.T.trans hT,h.plt,h.own,fun l hl=>⟨(h.loc l hl).1,hT.kept (h.loc l hl).2 (fun hm=>by have:=(h.loc l hl).1;have:=h.plt;simp at hm;omega)⟩,
  fun k hk=>⟨(h.trees k hk).1.turned hT (fun b hb hm=>by have:=(h.trees k hk).2 b hb;have:=h.plt;simp at hm;omega),(h.trees k hk).2⟩,h.ndl,h.dis,h.ndk⟩
theorem SW.callT {W':World} {s':PS} {k:Tr} (h:SW w W p v E s L K) (hk:k.ok W') (hS:∀ b ∈ k.S,W.heap.size ≤ b) (hP:PAt W' p v E s') (hT:Turned [p] W W'):SW w W' p v E s' L (k :: K):=by
 have h':=h.call hP hT
 refine ⟨h'.P,h'.T,h'.plt,h'.own,h'.loc,fun q hq => ?_,h'.ndl,fun l hl q hq => ?_,.cons (fun q hq x hx hx2 => ?_) h'.ndk⟩
 ·rcases List.mem_cons.1 hq with rfl | hq
  ·exact ⟨hk,fun b hb=>Nat.le_trans h.T.size (hS b hb)⟩
  ·exact h'.trees q hq
 ·rcases List.mem_cons.1 hq with rfl | hq
  ·intro hm
   have:=hS _ hm
   have:=blk_lt (h.loc l hl).2
   omega
  ·exact h'.dis l hl q hq
 ·have:=hS x hx
  have:=(h.trees q hq).1.lt x hx2
  omega
theorem SW.setP {s':PS} {j:Nat} {u:Value} (h:SW w W p v E s L K) (hP:PAt (W.setCell ⟨p,j,none⟩ u) p v E s'):SW w (W.setCell ⟨p,j,none⟩ u) p v E s' L K:=
 h.call hP ((Turned.refl _ _).setCell (by simp) _)
theorem SW.inc (h:SW w W p v E s L K) (hi:s.i < E.ts.length):SW w (W.setCell ⟨p,1,none⟩ (.int .i64 ((s.i:Int) + 1))) p v E (inc s) L K:=h.setP (h.P.inc hi)
theorem SW.inc2 (h:SW w W p v E s L K) (hi:s.i + 2 ≤ E.ts.length):SW w (W.setCell ⟨p,1,none⟩ (.int .i64 ((s.i:Int) + 2))) p v E ⟨s.i + 2,s.code,s.bad,s.deep⟩ L K:=h.setP (h.P.inc2 hi)
theorem SW.out (h:SW w W p v E s L K):SW w (W.setCell ⟨p,6,none⟩ (.int .i64 (wrap64 (s.deep - 1)))) p v E (out s) L K:=h.setP h.P.out
theorem SW.mem (h:SW w W p v E s L K) {n:Nat} {b:Nat} {o:Obj} (hn:L[n]? = some (b,o)):w.heap.size ≤ b ∧ W.heap[b]? = some o:=h.loc _ (List.mem_of_getElem? hn)
theorem SW.lt (h:SW w W p v E s L K) {n:Nat} {b:Nat} {o:Obj} (hn:L[n]? = some (b,o)):b < W.heap.size:=blk_lt (h.mem hn).2
theorem SW.cell (h:SW w W p v E s L K) (n:Nat) {b:Nat} {cs:Array Value} {t:TypeId} {fr:Nat × Nat} (hn:L[n]? = some (b,.cells cs t fr)) (i:Nat):W.cell? ⟨b,i,none⟩ = cs[i]?:=blk_cell (h.mem hn).2 i
theorem SW.free (h:SW w W p v E s L K) (n:Nat) {b:Nat} {cs:Array Value} {t:TypeId} (hn:L[n]? = some (b,.cells cs t (0,0))) (i:Nat):W.frozen? ⟨b,i,none⟩ = false:=blk_free (h.mem hn).2 i
theorem SW.ne (h:SW w W p v E s L K) (n:Nat) {b:Nat} {o:Obj} (hn:L[n]? = some (b,o)):b ≠ p ∧ p ≠ b:=by
 have:=(h.mem hn).1
 have:=h.plt
 omega
structure C4 (W:World) (b:Nat) (u0 u1 u2 u3:Value):Prop where
 c0:W.cell? ⟨b,0,none⟩ = some u0
 c1:W.cell? ⟨b,1,none⟩ = some u1
 c2:W.cell? ⟨b,2,none⟩ = some u2
 c3:W.cell? ⟨b,3,none⟩ = some u3
 f0:W.frozen? ⟨b,0,none⟩ = false
 f1:W.frozen? ⟨b,1,none⟩ = false
 f2:W.frozen? ⟨b,2,none⟩ = false
 f3:W.frozen? ⟨b,3,none⟩ = false
 lt:b < W.heap.size
structure C5 (W:World) (b:Nat) (u0 u1 u2 u3 u4:Value):Prop where
 c0:W.cell? ⟨b,0,none⟩ = some u0
 c1:W.cell? ⟨b,1,none⟩ = some u1
 c2:W.cell? ⟨b,2,none⟩ = some u2
 c3:W.cell? ⟨b,3,none⟩ = some u3
 c4:W.cell? ⟨b,4,none⟩ = some u4
 f0:W.frozen? ⟨b,0,none⟩ = false
 f1:W.frozen? ⟨b,1,none⟩ = false
 f2:W.frozen? ⟨b,2,none⟩ = false
 f3:W.frozen? ⟨b,3,none⟩ = false
 f4:W.frozen? ⟨b,4,none⟩ = false
 lt:b < W.heap.size
theorem SW.c4 (h:SW w W p v E s L K) (n:Nat) {b:Nat} {u0 u1 u2 u3:Value} {t:TypeId} (hn:L[n]? = some (b,.cells #[u0,u1,u2,u3] t (0,0))):C4 W b u0 u1 u2 u3:=
 ⟨h.cell n hn 0,h.cell n hn 1,h.cell n hn 2,h.cell n hn 3,h.free n hn 0,h.free n hn 1,h.free n hn 2,h.free n hn 3,h.lt hn⟩
theorem SW.c5 (h:SW w W p v E s L K) (n:Nat) {b:Nat} {u0 u1 u2 u3 u4:Value} {t:TypeId} (hn:L[n]? = some (b,.cells #[u0,u1,u2,u3,u4] t (0,0))):C5 W b u0 u1 u2 u3 u4:=
 ⟨h.cell n hn 0,h.cell n hn 1,h.cell n hn 2,h.cell n hn 3,h.cell n hn 4,h.free n hn 0,h.free n hn 1,h.free n hn 2,h.free n hn 3,h.free n hn 4,h.lt hn⟩
theorem SW.setL (h:SW w W p v E s L K) (n:Nat) {b:Nat} {cs:Array Value} {t:TypeId} {fr:Nat × Nat} (hn:L[n]? = some (b,.cells cs t fr)) (i:Nat) (u:Value):SW w (W.setCell ⟨b,i,none⟩ u) p v E s (L.set n (b,.cells (cs.setIfInBounds i u) t fr)) K:=by
 obtain ⟨hb,ho⟩:=h.mem hn
 have hnp:b ≠ p:=by have:=h.plt;omega
 have hno:b ∉ v.ownBlock.toList:=fun hm=>by have:=h.own b hm;omega
 have ht:Turned [b] W (W.setCell ⟨b,i,none⟩ u):=(Turned.refl _ _).setCell (by simp) _
 have hnl:n < L.length:=(List.getElem?_eq_some_iff.1 hn).1
 refine ⟨h.P.other i u hnp hno,⟨h.T.os,h.T.tape,h.T.output,Nat.le_trans h.T.size ht.size,fun k hk hn=>(ht.block k (Nat.lt_of_lt_of_le hk h.T.size) (by simp;omega)).trans (h.T.block k hk hn)⟩,h.plt,h.own,fun l hl => ?_,fun k hk=>⟨(h.trees k hk).1.turned ht (fun x hx hm => ?_),(h.trees k hk).2⟩,?_,fun l hl k hk => ?_,h.ndk⟩
 ·obtain ⟨j,hj,rfl⟩:=List.getElem_of_mem hl
  rw [List.length_set] at hj
  rw [List.getElem_set]
  by_cases e:n = j
  ·rw [if_pos e]
   exact ⟨hb,blk_set ho i u⟩
  ·rw [if_neg e]
   refine ⟨(h.loc _ (List.getElem_mem hj)).1,?_⟩
   refine ht.kept (h.loc _ (List.getElem_mem hj)).2 (fun hm => ?_)
   have e2:L[j].1 = b:=by simpa using hm
   have hnd:=List.pairwise_iff_getElem.1 h.ndl
   have hLn:L[n] = (b,.cells cs t fr):=by
    have:=List.getElem?_eq_getElem hnl
    rw [hn] at this
    exact (Option.some.inj this).symm
   rcases Nat.lt_or_gt_of_ne e with hlt | hlt
   ·exact hnd n j hnl hj hlt (by rw [hLn,e2])
   ·exact hnd j n hj hnl hlt (by rw [hLn,e2])
 ·have:x = b:=by simpa using hm
  subst this
  exact h.dis _ (List.mem_of_getElem? hn) k hk hx
 ·have hLn:L[n] = (b,.cells cs t fr):=by
   have:=List.getElem?_eq_getElem hnl
   rw [hn] at this
   exact (Option.some.inj this).symm
  have hnd:=List.pairwise_iff_getElem.1 h.ndl
  rw [List.pairwise_iff_getElem]
  intro a c ha hc hac
  have key:∀ j (hj:j < (L.set n (b,.cells (cs.setIfInBounds i u) t fr)).length),(L.set n (b,.cells (cs.setIfInBounds i u) t fr))[j].1 = (L[j]'(by rw [List.length_set] at hj;exact hj)).1:=by
   intro j hj
   rw [List.getElem_set]
   split
   ·rename_i e
    subst e
    rw [hLn]
   ·rfl
  rw [key a ha,key c hc]
  exact hnd a c (by rw [List.length_set] at ha;exact ha) (by rw [List.length_set] at hc;exact hc) hac
 ·rcases List.mem_or_eq_of_mem_set hl with hl | rfl
  ·exact h.dis l hl k hk
  ·exact h.dis _ (List.mem_of_getElem? hn) k hk
theorem SW.set4 (h:SW w W p v E s L K) (n:Nat) {b:Nat} {u0 u1 u2 u3:Value} {t:TypeId} (hn:L[n]? = some (b,.cells #[u0,u1,u2,u3] t (0,0))) (x0 x1 x2 x3:Value) :
  SW w ((((W.setCell ⟨b,0,none⟩ x0).setCell ⟨b,1,none⟩ x1).setCell ⟨b,2,none⟩ x2).setCell ⟨b,3,none⟩ x3) p v E s (L.set n (b,.cells #[x0,x1,x2,x3] t (0,0))) K:=by
 have hl:n < L.length:=(List.getElem?_eq_some_iff.1 hn).1
 have h1:=h.setL n hn 0 x0
 have h2:=h1.setL n (by rw [List.getElem?_set_self hl]) 1 x1
 rw [List.set_set] at h2
 have h3:=h2.setL n (by rw [List.getElem?_set_self hl]) 2 x2
 rw [List.set_set] at h3
 have h4:=h3.setL n (by rw [List.getElem?_set_self hl]) 3 x3
 rw [List.set_set] at h4
 exact h4
theorem SW.set5 (h:SW w W p v E s L K) (n:Nat) {b:Nat} {u0 u1 u2 u3 u4:Value} {t:TypeId} (hn:L[n]? = some (b,.cells #[u0,u1,u2,u3,u4] t (0,0))) (x0 x1 x2 x3 x4:Value) :
  SW w (((((W.setCell ⟨b,0,none⟩ x0).setCell ⟨b,1,none⟩ x1).setCell ⟨b,2,none⟩ x2).setCell ⟨b,3,none⟩ x3).setCell ⟨b,4,none⟩ x4) p v E s (L.set n (b,.cells #[x0,x1,x2,x3,x4] t (0,0))) K:=by
 have hl:n < L.length:=(List.getElem?_eq_some_iff.1 hn).1
 have h1:=h.setL n hn 0 x0
 have h2:=h1.setL n (by rw [List.getElem?_set_self hl]) 1 x1
 rw [List.set_set] at h2
 have h3:=h2.setL n (by rw [List.getElem?_set_self hl]) 2 x2
 rw [List.set_set] at h3
 have h4:=h3.setL n (by rw [List.getElem?_set_self hl]) 3 x3
 rw [List.set_set] at h4
 have h5:=h4.setL n (by rw [List.getElem?_set_self hl]) 4 x4
 rw [List.set_set] at h5
 exact h5
theorem SW.drop (h:SW w W p v E s L K) (L':List (Nat × Obj)) (hs:L'.Sublist L):SW w W p v E s L' K:=
 ⟨h.P,h.T,h.plt,h.own,fun l hl=>h.loc l (hs.subset hl),h.trees,h.ndl.sublist hs,fun l hl=>h.dis l (hs.subset hl),h.ndk⟩
end
theorem Tr.ok.slice {w:World} {k:Tr} (h:k.ok w):∃ a c,k.v = .slice a k.ks.length c:=by
 obtain ⟨d,hd⟩:=h
 exact hd.slice
def NodeR (p:Nat) (v:Value) (E:PE) (s2:PS) (x:Nd) (w:World) (e:Ending) (w':World):Prop:=
 ∃ (a:Option Addr) (n:Nat) (S:List Nat),e = .returned (ndV x (.slice a x.kids.length n)) ∧ (Tr.mk x.kids (.slice a x.kids.length n) S).ok w' ∧ (∀ b ∈ S,w.heap.size ≤ b) ∧ PAt w' p v E s2 ∧ Turned [p] w w'
theorem SW.node {w W:World} {p:Nat} {v:Value} {E:PE} {s:PS} {L:List (Nat × Obj)} {K:List Tr} {k:Tr} (h:SW w W p v E s L K) (hk:k ∈ K) (x:Nd) (hx:x.kids = k.ks):NodeR p v E s x w (.returned (ndV x k.v)) W:=by
 obtain ⟨a,n,hv⟩:=(h.trees k hk).1.slice
 have e:Tr.mk x.kids (.slice a x.kids.length n) k.S = k:=by rw [hx,← hv]
 refine ⟨a,n,k.S,?_,?_,(h.trees k hk).2,h.P,h.T⟩
 ·rw [hv,hx]
 ·rw [e];exact (h.trees k hk).1
theorem SW.leaf {w W:World} {p:Nat} {v:Value} {E:PE} {s:PS} {L:List (Nat × Obj)} {K:List Tr} (h:SW w W p v E s L K) (x:Nd) (hx:x.kids = []):NodeR p v E s x w (.returned (ndV x (.slice none 0 0))) W:=
 ⟨none,0,[],by rw [hx];rfl,by rw [hx];exact Tr.nil W,by simp,h.P,h.T⟩
end Go.Proofs.YtmfpmandkhiknaaGreatDoor.par
namespace Go.Proofs.YtmfpmandkhiknaaGreatDoor.par
open Go.RowKit
open heap
open lex (Tk TRow TkAt run_store_float add0)
set_option maxRecDepth 100000
attribute [local go_sem] run_store_float
theorem pt_below {w w':World} {p:Nat} {v:Value} {E:PE} {s:PS} (h:PAt w p v E s) (hb:Below w.heap.size w w'):PAt w' p v E s ∧ Turned [p] w w':=⟨h.below hb,Turned.of_below hb⟩
theorem fault_any (p:Nat) (v:Value) (E:PE) (s:PS) (c a:Int) (w:World) (h:PAt w p v E s) :
  Calls Tryz.prog 73 #[PP p,.int .i64 c,.int .i64 a] w fun e w'=>(∃ v,e = .returned v) ∧ PAt w' p v E (flt s c a) ∧ Turned [p] w w':=by
 have HP:=Lib.hid h
 have hcs:=h.cells
 have q4:=hcs.c4
 have q5:=hcs.c5
 have f4:=hcs.f4
 have f5:=hcs.f5
 clear hcs h
 by_cases hc:s.code = 0
 ·rw [hc] at q4
  go_enter Tryz.func73,Tryz.ntmps73
  go_wp2_with fail
  go_end0
  exact ⟨⟨_,rfl⟩,HP.out.fault c a hc,((Turned.refl _ _).setCell (by simp) _).setCell (by simp) _⟩
 ·have hb:(s.code == 0) = false:=by rw [beq_eq_false_iff_ne];exact hc
  have hf:flt s c a = s:=if_neg hc
  rw [hf]
  go_enter Tryz.func73,Tryz.ntmps73
  go_wp2_with fail
  go_end0
  exact ⟨⟨_,rfl⟩,HP.out,Turned.refl _ _⟩
set_option maxHeartbeats 1000000 in
theorem t_any (p:Nat) (v:Value) (E:PE) (s:PS) (w:World) (h:PAt w p v E s) :
  Calls Tryz.prog 52 #[PP p] w fun e w'=>e = .returned (tnV (tk E s)) ∧ PAt w' p v E (sT E s) ∧ Turned [p] w w':=by
 have HP:=Lib.hid h
 have hcs:=h.cells
 have q0:=hcs.c0
 have q1:=hcs.c1
 have q4:=hcs.c4
 have hle:=h.le
 have hlen:=h.len
 have hpl:=h.lt
 have HROW:=Lib.hid h.row
 clear hcs h
 by_cases hc:s.code = 0
 ·rw [hc] at q4
  by_cases hlt:s.i < E.ts.length
  ·have ht:E.ts[s.i]? = some E.ts[s.i]:=List.getElem?_eq_getElem hlt
   have hk:tk E s = tnOf E.ts[s.i]:=congrArg Prod.fst (pT_ok hc ht)
   have hs:sT E s = s:=congrArg Prod.snd (pT_ok hc ht)
   rw [hk,hs]
   generalize E.ts[s.i] = t at *
   have hti:(s.i:Int) < (E.ts.length:Int):=by omega
   rcases HROW.out.cells with ⟨-,h0⟩ | ⟨g,cp,rfl,hg,-,hc1,hc2,hcell⟩
   ·rw [h0] at hlt;simp at hlt
   ·obtain ⟨x0,x1,x2,x3⟩:=hcell _ t ht
    obtain ⟨kd,u,nm,a⟩:=t
    simp only [tnOf] at x0 x1 x2 x3 ⊢
    unfold maxLen at hc2
    clear hcell ht hk hs
    go_enter Tryz.func52,Tryz.ntmps52
    go_wp2_with fail
    go_quiet (fail)
    go_wp2_with fail
    go_region
    all_goals
     go_wp2_with fail
     refine bodyPost_ret (v:=tnV ⟨kd,u,nm,a⟩) (by simp [results,Tryz.results52,go_sem]) rfl ?_
     exact ⟨rfl,pt_below HP.out (by (repeat (first | exact Below.refl _ _ | refine Below.setCell ?_ (by simp) _ | refine below_drewN ?_ _ | refine Below.drew ?_ | refine Below.alloc ?_ (by simp) _)))⟩
  ·have ht:E.ts[s.i]? = none:=List.getElem?_eq_none (by omega)
   have hk:tk E s = endT:=congrArg Prod.fst (pT_no hc ht)
   have hs:sT E s = flt s E.lex E.lat:=by
    have:=congrArg Prod.snd (pT_no hc ht)
    simp only [flt,if_pos hc]
    exact this
   rw [hk,hs]
   have hti:¬ (s.i:Int) < (E.ts.length:Int):=by omega
   obtain ⟨a1,c1,rfl⟩:=HROW.out.slice
   clear hk hs ht
   go_enter Tryz.func52,Tryz.ntmps52
   go_wp2_with fail
   go_quiet (fail)
   go_wp2_with fail
   have HS2:=Lib.hid (((SW.start HP.out).alloc (tnO ⟨0,[],0,0⟩)).drewN nq)
   generalize ((w.alloc _).drewN nq) = w2 at *
   have hcs:=HS2.out.P.cells
   have q2:=hcs.c2
   have q3:=hcs.c3
   clear hcs q0 q1 q4
   go_still_tail 9,(by kernel_rfl)
   change wpList _ _ _ _ _ w2.drew
   go_wp2_with fail
   refine (fault_any p _ E s E.lex E.lat _ HS2.out.P.drew).mono ?_
   rintro e w3 ⟨⟨v3,rfl⟩,hP,hT⟩
   have HS3:=Lib.hid (HS2.out.drew.call hP hT)
   obtain ⟨r0,r1,r2,r3,rf0,rf1,rf2,rf3,rl⟩:=HS3.out.c4 0 rfl
   clear hP hT q2 q3 HS2
   go_wp2_with fail
   have HS4:=Lib.hid (HS3.out.set4 0 rfl (.int .i64 0) (.string ⟨#[]⟩) (.float .f64 0) (.int .i64 (-1)))
   generalize ((((w3.setCell _ _).setCell _ _).setCell _ _).setCell _ _) = w4 at HS4 ⊢
   clear r0 r1 r2 r3 rf0 rf1 rf2 rf3 rl
   obtain ⟨r0,r1,r2,r3,rf0,rf1,rf2,rf3,rl⟩:=HS4.out.c4 0 rfl
   refine bodyPost_ret (v:=tnV endT) (by simp [results,Tryz.results52,go_sem,endT,r0,r1,r2,r3]) rfl ?_
   exact ⟨rfl,HS4.out.P,HS4.out.T⟩
 ·have hb:(s.code == 0) = false:=by rw [beq_eq_false_iff_ne];exact hc
  have hk:tk E s = endT:=congrArg Prod.fst (pT_bad hc)
  have hs:sT E s = s:=congrArg Prod.snd (pT_bad hc)
  rw [hk,hs]
  clear hk hs
  go_enter Tryz.func52,Tryz.ntmps52
  go_wp2_with fail
  refine bodyPost_ret (v:=tnV endT) (by simp [results,Tryz.results52,go_sem,endT]) rfl ?_
  exact ⟨rfl,pt_below HP.out (by (repeat (first | exact Below.refl _ _ | refine Below.setCell ?_ (by simp) _ | refine below_drewN ?_ _ | refine Below.drew ?_ | refine Below.alloc ?_ (by simp) _)))⟩
set_option maxHeartbeats 1000000 in
theorem wrong_any (p:Nat) (v:Value) (E:PE) (s:PS) (w:World) (h:PAt w p v E s) :
  Calls Tryz.prog 75 #[PP p] w fun e w'=>(∃ v,e = .returned v) ∧ PAt w' p v E (wrong E s) ∧ Turned [p] w w':=by
 have HS:=Lib.hid (SW.start h)
 clear h
 go_enter Tryz.func75,Tryz.ntmps75
 go_wp2_with fail
 refine (t_any p v E s _ HS.out.P).mono ?_
 rintro e w2 ⟨rfl,hP,hT⟩
 have HS2:=Lib.hid ((HS.out.call hP hT).alloc (tnO (tk E s)))
 clear hP hT HS
 go_wp2_with fail
 refine (fault_any p v E (sT E s) 1900 (tk E s).at' _ HS2.out.P).mono ?_
 rintro e w3 ⟨⟨u,rfl⟩,hP,hT⟩
 have HS3:=Lib.hid (HS2.out.call hP hT)
 clear hP hT HS2
 go_wp2_with fail
 go_end0
 exact ⟨⟨_,rfl⟩,HS3.out.P,HS3.out.T⟩
set_option maxHeartbeats 1000000 in
theorem sign_any (p:Nat) (v:Value) (E:PE) (s:PS) (g:List UInt8) (b:Bool) (w:World) (h:PAt w p v E s) (hb:isS E g s = b) :
  Calls Tryz.prog 107 #[PP p,.string ⟨g.toArray⟩] w fun e w'=>e = .returned (.bool b) ∧ PAt w' p v E (sT E s) ∧ Turned [p] w w':=by
 have HS:=Lib.hid (SW.start h)
 clear h
 unfold isS at hb
 go_enter Tryz.func107,Tryz.ntmps107
 have HB:=Lib.hid hb
 clear hb
 go_wp2_with fail
 refine (t_any p v E s _ HS.out.P).mono ?_
 rintro e w2 ⟨rfl,hP,hT⟩
 have HS2:=Lib.hid ((HS.out.call hP hT).alloc (tnO (tk E s)))
 clear hP hT HS
 generalize tk E s = t at *
 obtain ⟨kd,u,nm,a⟩:=t
 simp only at HB ⊢
 have hB:=HB.out
 by_cases hk:kd = 4
 ·subst hk
  obtain rfl:b = (u == g):=by rw [← hB];simp
  clear hB HB
  go_wp2_with fail
  go_ret
  exact ⟨rfl,HS2.out.P,HS2.out.T⟩
 ·have hkb:(kd == 4) = false:=beq_eq_false_iff_ne.2 hk
  obtain rfl:b = false:=by rw [← hB,hkb];rfl
  clear hB
  go_wp2_with fail
  go_ret
  exact ⟨rfl,HS2.out.P,HS2.out.T⟩
set_option maxHeartbeats 1000000 in
theorem word_any (p:Nat) (v:Value) (E:PE) (s:PS) (g:List UInt8) (b:Bool) (w:World) (h:PAt w p v E s) (hb:isW E g s = b) :
  Calls Tryz.prog 74 #[PP p,.string ⟨g.toArray⟩] w fun e w'=>e = .returned (.bool b) ∧ PAt w' p v E (sT E s) ∧ Turned [p] w w':=by
 have HS:=Lib.hid (SW.start h)
 clear h
 unfold isW at hb
 go_enter Tryz.func74,Tryz.ntmps74
 have HB:=Lib.hid hb
 clear hb
 go_wp2_with fail
 refine (t_any p v E s _ HS.out.P).mono ?_
 rintro e w2 ⟨rfl,hP,hT⟩
 have HS2:=Lib.hid ((HS.out.call hP hT).alloc (tnO (tk E s)))
 clear hP hT HS
 generalize tk E s = t at *
 obtain ⟨kd,u,nm,a⟩:=t
 simp only at HB ⊢
 have hB:=HB.out
 by_cases hk:kd = 1
 ·subst hk
  obtain rfl:b = (u == g):=by rw [← hB];simp
  clear hB HB
  go_wp2_with fail
  go_ret
  exact ⟨rfl,HS2.out.P,HS2.out.T⟩
 ·have hkb:(kd == 1) = false:=beq_eq_false_iff_ne.2 hk
  obtain rfl:b = false:=by rw [← hB,hkb];rfl
  clear hB
  go_wp2_with fail
  go_ret
  exact ⟨rfl,HS2.out.P,HS2.out.T⟩
set_option maxHeartbeats 1000000 in
theorem must_any (p:Nat) (v:Value) (E:PE) (s:PS) (g:List UInt8) (w:World) (h:PAt w p v E s) :
  Calls Tryz.prog 78 #[PP p,.string ⟨g.toArray⟩] w fun e w'=>(∃ v,e = .returned v) ∧ PAt w' p v E (must E g s) ∧ Turned [p] w w':=by
 have HS:=Lib.hid (SW.start h)
 clear h
 have HM:Hid (must E g s = if isS E g s then inc (sT E s) else wrong E (sT E s)):=rfl
 generalize must E g s = sm at *
 have HI:Hid (isS E g s = true → s.i < E.ts.length):=fun h=>(tk_kind (by rw [(isS_kind h).1];decide)).2.1
 cases hb:isS E g s with
 | true =>
  have HB:=Lib.hid hb
  have hi:=HI.out hb
  obtain rfl:sm = inc (sT E s):=by rw [HM.out,if_pos hb]
  clear hb HM HI
  go_enter Tryz.func78,Tryz.ntmps78
  go_wp2_with fail
  refine (sign_any p v E s g true _ HS.out.P HB.out).mono ?_
  rintro e w2 ⟨rfl,hP,hT⟩
  have HS2:=Lib.hid (HS.out.call hP hT)
  clear hP hT HS
  have hcs:=HS2.out.P.cells
  have q1:=hcs.c1
  have f1:=hcs.f1
  have hle:=HS2.out.P.le
  have hlen:=HS2.out.P.len
  clear hcs
  go_wp2_with fail
  go_end0
  have HS3:=HS2.out.inc (by rw [sT_i];exact hi)
  exact ⟨⟨_,rfl⟩,HS3.P,HS3.T⟩
 | false =>
  have HB:=Lib.hid hb
  obtain rfl:sm = wrong E (sT E s):=by rw [HM.out,if_neg (by simp [hb])]
  clear hb HM HI
  go_enter Tryz.func78,Tryz.ntmps78
  go_wp2_with fail
  refine (sign_any p v E s g false _ HS.out.P HB.out).mono ?_
  rintro e w2 ⟨rfl,hP,hT⟩
  have HS2:=Lib.hid (HS.out.call hP hT)
  clear hP hT HS
  go_wp2_with fail
  refine (wrong_any p v E _ _ HS2.out.P).mono ?_
  rintro e w3 ⟨⟨u,rfl⟩,hP,hT⟩
  have HS3:=Lib.hid (HS2.out.call hP hT)
  clear hP hT HS2
  go_wp2_with fail
  refine bodyPost_ret (results_none rfl _ _ _) rfl ?_
  exact ⟨⟨_,rfl⟩,HS3.out.P,HS3.out.T⟩
theorem kept_get (k:Nat) (h:k < 13):∃ u,keptL[k]? = some u:=⟨keptL[k]'h,List.getElem?_eq_getElem h⟩
abbrev keptO:Obj:=.cells #[.string ⟨#[102,114,111,109]⟩,.string ⟨#[97,115]⟩,.string ⟨#[99,111,112,121]⟩,.string ⟨#[114,117,110]⟩,.string ⟨#[119,111,114,107,100,105,114]⟩,.string ⟨#[109,107,100,105,114]⟩,.string ⟨#[114,101,109,111,118,101]⟩,.string ⟨#[115,101,116]⟩,.string ⟨#[105,102]⟩,.string ⟨#[101,108,115,101]⟩,.string ⟨#[119,104,105,108,101]⟩,.string ⟨#[100,111]⟩,.string ⟨#[102,97,105,108]⟩] 9 (0,0)
theorem kept_cell {w:World} {b:Nat} (h:w.heap[b]? = some keptO) (k:Nat) (u:List UInt8) (hu:keptL[k]? = some u):w.cell? ⟨b,k,none⟩ = some (.string ⟨u.toArray⟩):=by
 rw [blk_cell h]
 have hk:k < 13:=(List.getElem?_eq_some_iff.1 hu).1
 rcases k with _|_|_|_|_|_|_|_|_|_|_|_|_|k <;> first | (cases hu;rfl) | omega
set_option maxHeartbeats 1000000 in
theorem kept_any (g:List UInt8) (b:Bool) (w:World) (hb:kept g = b) :
  Calls Tryz.prog 106 #[.string ⟨g.toArray⟩] w fun e w'=>e = .returned (.bool b) ∧ Below w.heap.size w w':=by
 have HB:=Lib.hid hb
 clear hb
 go_enter Tryz.func106,Tryz.ntmps106
 go_wp2_with fail
 have HL:=Lib.hid (blk_new w keptO)
 have HW:Hid (Below w.heap.size w (w.alloc keptO)):=(Below.refl _ _).alloc (Nat.le_refl _) _
 generalize w.alloc _ = w2 at *
 have hl:=blk_lt HL.out
 go_loop [4] (fun i=>∃ k:Nat,k ≤ 13 ∧ i = .int .i64 k ∧ Hid (∀ j u,j < k → keptL[j]? = some u → u ≠ g)) (fun i=>13 - (intOf i).toNat)
 case atStart=>exact ⟨0,by omega,rfl,fun j u hj=>absurd hj (Nat.not_lt_zero _)⟩
 case round =>
  obtain ⟨k,hk,rfl,HN⟩:=hrel
  by_cases hlt:k < 13
  ·obtain ⟨u,hu⟩:=kept_get k hlt
   have hc:=kept_cell HL.out k u hu
   have HU:=Lib.hid hu
   have hkI:(k:Int) < 13:=by omega
   clear hu
   by_cases he:u = g
   ·have hg:(u == g) = true:=by simp [he]
    have:b = true:=by
     rw [← HB.out];unfold kept;rw [List.contains_iff_mem,← he];exact List.mem_of_getElem? HU.out
    subst this
    clear he
    go_wp2
    go_ret
    exact ⟨rfl,HW.out⟩
   ·have hg:(u == g) = false:=by simp [he]
    have HN2:Hid (∀ j u,j < k + 1 → keptL[j]? = some u → u ≠ g):=by
     intro j u' hj hu'
     rcases Nat.lt_succ_iff_lt_or_eq.1 hj with h | rfl
     ·exact HN.out j u' h hu'
     ·rw [HU.out] at hu';cases hu';exact he
    clear he
    go_wp2
    go_round
    case rel=>exact ⟨k + 1,by omega,by go_num,HN2⟩
    case measure=>simp [intOf];omega
  ·have:b = false:=by
    rw [← HB.out,Bool.eq_false_iff]
    intro h
    unfold kept at h
    rw [List.contains_iff_mem] at h
    obtain ⟨j,hj,e⟩:=List.getElem_of_mem h
    exact HN.out j g (by have:j < 13:=hj;omega) (by rw [List.getElem?_eq_getElem hj,e]) rfl
   subst this
   go_wp2
   go_ret
   exact ⟨rfl,HW.out⟩
end Go.Proofs.YtmfpmandkhiknaaGreatDoor.par
namespace Go.Proofs.YtmfpmandkhiknaaGreatDoor.reg
open Go.RowKit
theorem yield_of {l:List Oper} {a:Act} {j t:Nat} {p:Oper} {b:Bool} (hp:l[j]? = some p) (hd:p.dst = some t) (h:a.eval (.tmp t) = .bool b):yielded l.toArray a.tmps j = some b:=by
 have h':a.tmps.getD t undef = .bool b:=h
 unfold yielded
 rw [List.getElem?_toArray,hp]
 simp only [Option.bind_some,hd]
 cases ht:a.tmps[t]? with
 | none=>simp [Array.getD_eq_getD_getElem?,ht] at h';cases h'
 | some v=>simp [Array.getD_eq_getD_getElem?,ht] at h';subst h';rfl
theorem want_yes {l:List Oper} {a:Act} {o p:Oper} {j t:Nat} {want b:Bool} {A B:Prop} (hg:o.guard = some (j,want)) (hp:l[j]? = some p) (hd:p.dst = some t) (h:a.eval (.tmp t) = .bool b) (hb:b = want) (hA:A):if Region.wanted o (yielded l.toArray a.tmps) = true then A else B:=by
 rw [if_pos]
 ·exact hA
 ·simp [Region.wanted,hg,yield_of hp hd h,hb]
theorem want_no {l:List Oper} {a:Act} {o p:Oper} {j t:Nat} {want b:Bool} {A B:Prop} (hg:o.guard = some (j,want)) (hp:l[j]? = some p) (hd:p.dst = some t) (h:a.eval (.tmp t) = .bool b) (hb:b ≠ want) (hB:B):if Region.wanted o (yielded l.toArray a.tmps) = true then A else B:=by
 rw [if_neg]
 ·exact hB
 ·simp [Region.wanted,hg,yield_of hp hd h,hb]
end Go.Proofs.YtmfpmandkhiknaaGreatDoor.reg
