/-
  Proved: what primary of the document's parser returns (written by wip/bin/par10.py). Conditions: as each theorem says.
-/
import Derived.Test.YtmfpmandkhiknaaGreatDoorPu13
set_option linter.unusedVariables false
set_option linter.unusedSimpArgs false
namespace Go.Proofs.YtmfpmandkhiknaaGreatDoor.par
open Go.RowKit
open heap
open lex (Tk TRow TkAt run_store_float add0)
set_option maxRecDepth 100000
attribute [local go_sem] run_store_float
def ArgI (W:World) (p:Nat) (v:Value) (E:PE) (bx:Nat) (g:List UInt8) (at':Int) (L:List (Nat × Obj)) (kf:List Nd) (sf:PS) (f k:Nat) (wr:World):Prop:=
 ∃ (ks:List Nd) (s3:PS) (a:Option Addr) (n:Nat) (S:List Nat),SW W wr p v E s3 ((bx,ksO 19 g a ks.length n at') :: L) [⟨ks,.slice a ks.length n,S⟩] ∧
  run E k (.args ks) s3 = some (kf,sf) ∧ 16 * ms E s3 + 10 ≤ k ∧ k ≤ f ∧ ks.length + ms E s3 ≤ 200002
end Go.Proofs.YtmfpmandkhiknaaGreatDoor.par
