/-
  Proved: the methods of the document's parser, all of them; what step returns (written by wip/bin/par11.py). Conditions: as each theorem says.
  Proved: what step of the document's parser returns: copy, all. Conditions: as each theorem says.
  Proved: what stage of the document's parser returns. Conditions: as each theorem says.
-/
import Derived.Test.YtmfpmandkhiknaaGreatDoorPw24
set_option linter.unusedVariables false
set_option linter.unusedSimpArgs false
namespace Go.Proofs.YtmfpmandkhiknaaGreatDoor.par
open Go.RowKit
open heap
open lex (Tk TRow TkAt run_store_float add0)
set_option maxRecDepth 100000
attribute [local go_sem] run_store_float
theorem jobs_all (p:Nat) (v:Value) (E:PE) (f:Nat):Jobs p v E f:=by
 induction f using Nat.strongRecOn with
 | ind f ih =>
  cases f with
  | zero=>exact ⟨fun l li s x s2 W h hl hf=>by simp only [rank] at hf;omega,fun s x s2 W hf=>by simp only [rank] at hf;omega,fun s x s2 W hf=>by simp only [rank] at hf;omega,fun s x s2 W hf=>by simp only [rank] at hf;omega,fun s x s2 W hf=>by simp only [rank] at hf;omega,fun s x s2 W hf=>by simp only [rank] at hf;omega⟩
  | succ f =>
   have J:∀ k,k ≤ f → Jobs p v E k:=fun k hk=>ih k (by omega)
   have J0:=J f (Nat.le_refl _)
   exact ⟨fun l li s x s2 W h hl hf hr hp=>by subst h;exact bin_step J l hl s x s2 W hf hr hp,
    fun s x s2 W hf hr hp=>unary_step J0 s x s2 W hf hr hp,
    fun s x s2 W hf hr hp=>inner_step J0 s x s2 W hf hr hp,
    fun s x s2 W hf hr hp=>primary_step J s x s2 W hf hr hp,
    fun s x s2 W hf hr hp=>block_step J s x s2 W hf hr hp,
    fun s x s2 W hf hr hp=>stmt_step J0 s x s2 W (by simp only [rank] at hf;exact hf) hr hp⟩
theorem field_tok0 (w:World) (a b c d:Value):(Instr.field 98 (.agg #[a,b,c,d]) 0).run Tryz.prog w = .ok a w:=by kernel_rfl
theorem field_tok3 (w:World) (a b c d:Value):(Instr.field 98 (.agg #[a,b,c,d]) 3).run Tryz.prog w = .ok d w:=by kernel_rfl
attribute [local go_sem] field_tok0 field_tok3
end Go.Proofs.YtmfpmandkhiknaaGreatDoor.par
