/-
  Proved: what the document's Script returns, of every text. Conditions: as each theorem says.
-/
import Derived.Test.YtmfpmandkhiknaaGreatDoorPu23
import Derived.Test.YtmfpmandkhiknaaGreatDoorPu28
import Derived.Test.YtmfpmandkhiknaaGreatDoorPu20
set_option linter.unusedVariables false
set_option linter.unusedSimpArgs false
namespace Go.Proofs.YtmfpmandkhiknaaGreatDoor.par
open Go.RowKit
open heap
open lex (Tk TRow TkAt run_store_float add0 scanL scanF)
open many (envOf st0)
set_option maxRecDepth 100000
attribute [local go_sem] run_store_float field_tok0 field_tok3
theorem scanF_len:∀ (f:Nat) (t:List UInt8) (a:Nat),(scanF f t a).1.length ≤ f + 1
 | 0,t,a=>by simp [scanF]
 | f + 1,t,a=>by
  rw [scanF]
  split
  ·simp
  ·split
   ·simp
   ·have:=scanF_len f
    simp only [List.length_cons]
    refine Nat.succ_le_succ (this _ _)
theorem scanL_len (l:List UInt8):(scanL l).1.length ≤ 16386:=by
 unfold scanL
 split
 ·simp
 ·have:=scanF_len (l.length + 1) (l.drop (lex.skp false l)) (lex.skp false l)
  omega
theorem trow_base {w:World} {b b2:Nat} {v:Value} {ts:List Tk} (h:TRow w b v ts) (hb:b2 ≤ b):TRow w b2 v ts:=by
 obtain ⟨h1,h2 | ⟨g,c,cur,hv,hg,r⟩⟩:=h
 ·exact ⟨h1,.inl h2⟩
 ·exact ⟨h1,.inr ⟨g,c,cur,hv,Nat.le_trans hb hg,r⟩⟩
theorem res5 {W:World} {b:Nat} {u0 u1 u2 u3 u4:Value} {t:TypeId} (h:W.heap[b]? = some (.cells #[u0,u1,u2,u3,u4] t (0,0))) (x0 x1 x2 x3 x4:Value) :
  (((((W.setCell ⟨b,0,none⟩ x0).setCell ⟨b,1,none⟩ x1).setCell ⟨b,2,none⟩ x2).setCell ⟨b,3,none⟩ x3).setCell ⟨b,4,none⟩ x4).heap[b]? = some (.cells #[x0,x1,x2,x3,x4] t (0,0)):=
 blk_set (blk_set (blk_set (blk_set (blk_set h 0 x0) 1 x1) 2 x2) 3 x3) 4 x4
theorem turned5 (W:World) (b:Nat) (x0 x1 x2 x3 x4:Value):Turned [b] W (((((W.setCell ⟨b,0,none⟩ x0).setCell ⟨b,1,none⟩ x1).setCell ⟨b,2,none⟩ x2).setCell ⟨b,3,none⟩ x3).setCell ⟨b,4,none⟩ x4):=
 (((((Turned.refl _ _).setCell (by simp) _).setCell (by simp) _).setCell (by simp) _).setCell (by simp) _).setCell (by simp) _
def TreeR (x:Nd) (s2:PS) (w:World) (e:Ending) (w':World):Prop:=
 if s2.code = 0 then ∃ (a:Option Addr) (n:Nat) (S:List Nat),e = .returned (.tuple #[ndV x (.slice a x.kids.length n),.int .i64 0,.int .i64 0]) ∧ (Tr.mk x.kids (.slice a x.kids.length n) S).ok w' ∧ (∀ b ∈ S,w.heap.size ≤ b) ∧ Below w.heap.size w w'
 else e = .returned (.tuple #[ndV zero (.slice none 0 0),.int .i64 s2.bad,.int .i64 s2.code]) ∧ Below w.heap.size w w'
theorem SW.bel {w0 w W:World} {p:Nat} {v:Value} {E:PE} {s:PS} {L:List (Nat × Obj)} {K:List Tr} (h:SW w W p v E s L K) (hb:Below w0.heap.size w0 w) (hp:w0.heap.size ≤ p):Below w0.heap.size w0 W:=
 hb.trans (h.T.below hb.size (fun k hk => by have : k = p := by simpa using hk
                                             omega))
end Go.Proofs.YtmfpmandkhiknaaGreatDoor.par
