/-
  Proved: CheckScripts returns true. Conditions: as each theorem says.
-/
import Derived.Test.YtkcgldpedfafpaaGreatPr32
import Derived.Test.YtkcgldpedfafpaaGreatPr33
import Derived.Test.YtkcgldpedfafpaaGreatPr37
namespace Go.Proofs.YtkcgldpedfafpaaGreat.chk
open Go.RowKit
open heap maps
open par (Nd KV LV Tr ndV ndO ndC okStep okStage stmtsR TreeR ms Wide cnt9 cntL)
open lex (run_store_float scanL)
open many (fnL fnT envOf st0 chkS recipeR shortS)
set_option linter.unusedVariables false
set_option linter.unusedSimpArgs false
set_option maxRecDepth 100000
attribute [local go_sem] run_store_float

/-- A text's first state has few tokens ahead. -/
theorem ms_st0 (l : List UInt8) : ms (envOf l) st0 ≤ 100001 := by
 rw [par.ms_ok rfl]
 have := par.scanL_len l
 show (scanL l).1.length - 0 + 1 ≤ _
 omega
/-- Where the law stands: the tree x and the lent one. -/
structure CI (w : World) (x : Nd) (d p q : Nat) (a : Option Addr) (n : Nat) (S : List Nat) (g : Nat) (S' : List Nat) (W : World) : Prop where
 xb : W.heap[p]? = some (ndO x (.slice a x.kids.length n))
 yb : W.heap[q]? = some (ndO x (.slice (some ⟨g, 0, none⟩) x.kids.length (x.kids.length + 1)))
 xk : KV 25 W d x.kids (.slice a x.kids.length n) S
 yk : LV 25 W d x.kids (.slice (some ⟨g, 0, none⟩) x.kids.length (x.kids.length + 1)) S'
 bel : Below w.heap.size w W
theorem CI.below {w W W2 : World} {x : Nd} {d p q : Nat} {a : Option Addr} {n : Nat} {S : List Nat} {g : Nat} {S' : List Nat} (h : CI w x d p q a n S g S' W) (hb : Below W.heap.size W W2) : CI w x d p q a n S g S' W2 :=
 ⟨blk_below h.xb hb, blk_below h.yb hb, h.xk.below hb, h.yk.below hb, h.bel.trans (hb.mono h.bel.size)⟩
/-- The two blocks are laid. -/
theorem CI.start {w w1 w2 : World} {x : Nd} {d : Nat} {a : Option Addr} {n : Nat} {S : List Nat} {g : Nat} {S' : List Nat} (hb : Below w.heap.size w w1) (hk : KV 25 w1 d x.kids (.slice a x.kids.length n) S)
  (hl : LV 25 w2 d x.kids (.slice (some ⟨g, 0, none⟩) x.kids.length (x.kids.length + 1)) S') (hb2 : Below (w1.alloc (ndO x (.slice a x.kids.length n))).heap.size (w1.alloc (ndO x (.slice a x.kids.length n))) w2) :
  CI w x d w1.heap.size w2.heap.size a n S g S' (w2.alloc (ndO x (.slice (some ⟨g, 0, none⟩) x.kids.length (x.kids.length + 1)))) := by
 have h1 : Below w1.heap.size w1 (w1.alloc (ndO x (.slice a x.kids.length n))) := (Below.refl _ _).alloc (Nat.le_refl _) _
 have h2 : Below w2.heap.size w2 (w2.alloc (ndO x (.slice (some ⟨g, 0, none⟩) x.kids.length (x.kids.length + 1)))) := (Below.refl _ _).alloc (Nat.le_refl _) _
 have h3 : Below w1.heap.size w1 w2 := h1.trans (hb2.mono h1.size)
 exact ⟨blk_below (blk_below (blk_new _ _) hb2) h2, blk_new _ _, (hk.below h3).below h2, hl.below h2, (hb.trans (h3.mono hb.size)).trans (h2.mono (Nat.le_trans hb.size h3.size))⟩
end Go.Proofs.YtkcgldpedfafpaaGreat.chk
