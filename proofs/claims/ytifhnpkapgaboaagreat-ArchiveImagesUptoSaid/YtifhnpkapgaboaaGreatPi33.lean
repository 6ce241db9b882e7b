/-
  Proved: what the program's reader's layer does over a field. Conditions: as each theorem says.
-/
import Derived.Test.YtifhnpkapgaboaaGreatPi32
set_option linter.unusedVariables false
set_option linter.unusedSimpArgs false
namespace Go.Proofs.YtifhnpkapgaboaaGreat.arch
open Go.RowKit
open heap
open path (sv str_size)
open fld (Fld FldP applyF)
set_option maxRecDepth 100000
structure LJ (w:World) (q f mn kn:Nat) (s:Nm) (a:Nat) (es:List Ent) (F:Fld) (v:Value) (W:World):Prop where
 rd:W.heap[q]? = some (RdO s a)
 lb:W.heap[w.heap.size]? = some (.cells #[v] 44 (0,0))
 row:ERow W (w.heap.size + 1) v es
 tur:Turned [q,mn,kn] w W
 fld:FldP W f mn kn F
 G:Grd q f mn kn w.heap.size
 al:a ≤ s.length
theorem LJ.vq {w W:World} {q f mn kn a:Nat} {s:Nm} {es:List Ent} {F:Fld} {v:Value} (h:LJ w q f mn kn s a es F v W):∀ g ∈ v.ownBlock.toList,w.heap.size + 1 ≤ g ∧ g < W.heap.size:=h.row.lt
theorem LJ.turn {w W W':World} {q f mn kn a a':Nat} {s:Nm} {es:List Ent} {F:Fld} {v:Value} (h:LJ w q f mn kn s a es F v W) (hq:W'.heap[q]? = some (RdO s a')) (ht:Turned [q] W W') (ha:a' ≤ s.length):LJ w q f mn kn s a' es F v W':=
 ⟨hq,ht.kept h.lb (by have:=h.G.lq;simp;omega),h.row.turned ht (fun g hg hm=>by
  have h1:=(h.vq g hg).1
  have h2:=h.G.lq
  have h3:g = q:=by simpa using hm
  omega),h.tur.trans (ht.mono (by simp)),h.fld.turned ht (by simp;exact fun e=>h.G.qf e.symm) (by simp;exact fun e=>h.G.qm e.symm) (by simp;exact fun e=>h.G.qk e.symm),h.G,ha⟩
theorem LJ.below {w W W':World} {q f mn kn a:Nat} {s:Nm} {es:List Ent} {F:Fld} {v:Value} (h:LJ w q f mn kn s a es F v W) (hb:Below W.heap.size W W'):LJ w q f mn kn s a es F v W':=h.turn (blk_below h.rd hb) (Turned.of_below hb) h.al
theorem LJ.tur2 {w W W':World} {q f mn kn a:Nat} {s:Nm} {es:List Ent} {F:Fld} {v:Value} (h:LJ w q f mn kn s a es F v W) (ht:Turned (q :: mn :: kn :: w.heap.size :: v.ownBlock.toList) W W'):Turned [q,mn,kn] w W':=
 ⟨ht.os.trans h.tur.os,ht.tape.trans h.tur.tape,ht.output.trans h.tur.output,Nat.le_trans h.tur.size ht.size,fun b hb hn=>by
  rw [ht.block b (Nat.lt_of_lt_of_le hb h.tur.size) (fun hm => ?_)]
  ·exact h.tur.block b hb hn
  ·simp only [List.mem_cons,List.not_mem_nil,or_false,not_or] at hm hn
   rcases hm with e | e | e | e | hm
   ·exact hn.1 e
   ·exact hn.2.1 e
   ·exact hn.2.2 e
   ·omega
   ·have:=(h.vq b hm).1;omega⟩
theorem LJ.done {w W W':World} {q f mn kn a a':Nat} {s:Nm} {es es':List Ent} {F F':Fld} {v u:Value} (h:LJ w q f mn kn s a es F v W) (ht:Turned (q :: mn :: kn :: w.heap.size :: v.ownBlock.toList) W W') (hq:W'.heap[q]? = some (RdO s a')) (hl:W'.heap[w.heap.size]? = some (.cells #[u] 44 (0,0)))
  (hr:ERow W' (w.heap.size + 1) u es') (hf:FldP W' f mn kn F') (ha:a' ≤ s.length):LJ w q f mn kn s a' es' F' u W':=
 ⟨hq,hl,hr,h.tur2 ht,hf,h.G,ha⟩
end Go.Proofs.YtifhnpkapgaboaaGreat.arch
