/-
  Proved: what the program's reader's entry does over a field. Conditions: as each theorem says.
-/
import Derived.Test.YtifhnpkapgaboaaGreatPi31
set_option linter.unusedVariables false
set_option linter.unusedSimpArgs false
namespace Go.Proofs.YtifhnpkapgaboaaGreat.arch
open Go.RowKit
open heap
open path (sv str_size cleanB cleanR belowB)
open fld (Fld FldP applyF)
set_option maxRecDepth 100000
structure Grd (q f mn kn B:Nat):Prop where
 lq:q < B
 lf:f < B
 lm:mn < B
 lk:kn < B
 qf:q ≠ f
 qm:q ≠ mn
 qk:q ≠ kn
theorem Grd.of {w:World} {q f mn kn:Nat} {s:Nm} {a:Nat} {F:Fld} (hq:w.heap[q]? = some (RdO s a)) (h:FldP w f mn kn F):Grd q f mn kn w.heap.size:=
 ⟨blk_lt hq,blk_lt h.blk,h.nodes.lt,h.kids.lt,(fun e=>by
  have h1:=h.blk
  rw [← e,hq] at h1
  simp at h1),(fun e=>by
  obtain ⟨es,c,h1,-⟩:=h.nodes
  rw [← e,hq] at h1
  cases h1),(fun e=>by
  obtain ⟨es,c,h1,-⟩:=h.kids
  rw [← e,hq] at h1
  cases h1)⟩
structure EJ (w:World) (q f mn kn:Nat) (s:Nm) (a:Nat) (p:Nm) (k m:Int) (d:Nm) (F:Fld) (W:World):Prop where
 rd:W.heap[q]? = some (RdO s a)
 eb:W.heap[w.heap.size + 1]? = some (.cells #[.string ⟨p.toArray⟩,.int .i64 k,.int .i64 m,.string ⟨d.toArray⟩] 58 (0,0))
 rb:W.heap[w.heap.size]? = some (.cells #[.string ⟨#[]⟩,.int .i64 0,.int .i64 0,.string ⟨#[]⟩] 58 (0,0))
 tur:Turned [q,mn,kn] w W
 fld:FldP W f mn kn F
 G:Grd q f mn kn w.heap.size
theorem EJ.turn {w W W':World} {q f mn kn a a':Nat} {s p d:Nm} {k m:Int} {F:Fld} (h:EJ w q f mn kn s a p k m d F W) (hq:W'.heap[q]? = some (RdO s a')) (ht:Turned [q] W W'):EJ w q f mn kn s a' p k m d F W':=
 ⟨hq,ht.kept h.eb (by have:=h.G.lq;simp;omega),ht.kept h.rb (by have:=h.G.lq;simp;omega),h.tur.trans (ht.mono (by simp)),h.fld.turned ht (by simp;exact fun e=>h.G.qf e.symm) (by simp;exact fun e=>h.G.qm e.symm) (by simp;exact fun e=>h.G.qk e.symm),h.G⟩
theorem EJ.below {w W W':World} {q f mn kn a:Nat} {s p d:Nm} {k m:Int} {F:Fld} (h:EJ w q f mn kn s a p k m d F W) (hb:Below W.heap.size W W'):EJ w q f mn kn s a p k m d F W':=h.turn (blk_below h.rd hb) (Turned.of_below hb)
theorem EJ.app {w W W':World} {q f mn kn a:Nat} {s p d:Nm} {k m:Int} {F F':Fld} (h:EJ w q f mn kn s a p k m d F W) (hf:FldP W' f mn kn F') (ht:Turned [mn,kn] W W'):EJ w q f mn kn s a p k m d F' W':=by
 have h1:=h.G
 exact ⟨ht.kept h.rd (by simp;exact ⟨h1.qm,h1.qk⟩),ht.kept h.eb (by have:=h1.lm;have:=h1.lk;simp;omega),ht.kept h.rb (by have:=h1.lm;have:=h1.lk;simp;omega),h.tur.trans (ht.mono (by simp)),hf,h1⟩
theorem EJ.setT {w W:World} {q f mn kn a:Nat} {s p d:Nm} {k m:Int} {F:Fld} (h:EJ w q f mn kn s a p k m d F W) (i:Nat) (v:Value) (cs:Array Value) (hc:(#[.string ⟨p.toArray⟩,.int .i64 k,.int .i64 m,.string ⟨d.toArray⟩]:Array Value).setIfInBounds i v = cs) :
  (W.setCell ⟨w.heap.size + 1,i,none⟩ v).heap[q]? = some (RdO s a) ∧ (W.setCell ⟨w.heap.size + 1,i,none⟩ v).heap[w.heap.size + 1]? = some (.cells cs 58 (0,0)) ∧
   (W.setCell ⟨w.heap.size + 1,i,none⟩ v).heap[w.heap.size]? = some (.cells #[.string ⟨#[]⟩,.int .i64 0,.int .i64 0,.string ⟨#[]⟩] 58 (0,0)) ∧ Turned [q,mn,kn] w (W.setCell ⟨w.heap.size + 1,i,none⟩ v) ∧ FldP (W.setCell ⟨w.heap.size + 1,i,none⟩ v) f mn kn F:=by
 have hql:=h.G.lq
 refine ⟨(blk_other (by omega) i v).trans h.rd,?_,(blk_other (by omega) i v).trans h.rb,tur_set h.tur (by simp) v,h.fld.turned ((Turned.refl [w.heap.size + 1] W).setCell (by simp) v) ?_ ?_ ?_⟩
 ·rw [← hc];exact blk_set h.eb i v
 ·have:=h.G.lf;simp;omega
 ·have:=h.G.lm;simp;omega
 ·have:=h.G.lk;simp;omega
theorem EJ.path {w W:World} {q f mn kn a:Nat} {s p d p':Nm} {k m:Int} {F:Fld} (h:EJ w q f mn kn s a p k m d F W):EJ w q f mn kn s a p' k m d F (W.setCell ⟨w.heap.size + 1,0,none⟩ (sv p')):=by
 obtain ⟨h1,h2,h3,h4,h5⟩:=h.setT 0 (sv p') #[sv p',.int .i64 k,.int .i64 m,.string ⟨d.toArray⟩] rfl
 exact ⟨h1,h2,h3,h4,h5,h.G⟩
theorem EJ.mode {w W:World} {q f mn kn a:Nat} {s p d:Nm} {k m m':Int} {F:Fld} (h:EJ w q f mn kn s a p k m d F W):EJ w q f mn kn s a p k m' d F (W.setCell ⟨w.heap.size + 1,2,none⟩ (.int .i64 m')):=by
 obtain ⟨h1,h2,h3,h4,h5⟩:=h.setT 2 (.int .i64 m') #[.string ⟨p.toArray⟩,.int .i64 k,.int .i64 m',.string ⟨d.toArray⟩] rfl
 exact ⟨h1,h2,h3,h4,h5,h.G⟩
theorem EJ.data {w W:World} {q f mn kn a:Nat} {s p d d':Nm} {k m:Int} {F:Fld} (h:EJ w q f mn kn s a p k m d F W):EJ w q f mn kn s a p k m d' F (W.setCell ⟨w.heap.size + 1,3,none⟩ (sv d')):=by
 obtain ⟨h1,h2,h3,h4,h5⟩:=h.setT 3 (sv d') #[.string ⟨p.toArray⟩,.int .i64 k,.int .i64 m,sv d'] rfl
 exact ⟨h1,h2,h3,h4,h5,h.G⟩
end Go.Proofs.YtifhnpkapgaboaaGreat.arch
