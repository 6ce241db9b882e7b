/-
  Proved: what the document's own Text returns. Conditions: as each theorem says.
-/
import Derived.Test.YtjanpaallealgaaDoorFlt4
namespace Go.Proofs.YtjanpaallealgaaDoor.flt
open Go.RowKit Ieee
open num (U64 decS decL decF_len Dec_any ret_str ret_pair bcell)
set_option linter.unusedVariables false
set_option maxRecDepth 100000
attribute [local go_sem] run_bits run_frombits

theorem mod_two (m : Nat) : (m : Int) % 2 = ((m % 2 : Nat) : Int) := by omega
theorem szN (D : ByteArray) (x : Int) (h : x < 0) : D ++ (⟨#[112, 45]⟩ : ByteArray) ++ decS x.natAbs = D ++ (⟨#[112]⟩ : ByteArray) ++ szS x := by
  rw [szS_neg x h]
  apply ByteArray.ext
  apply Array.toList_inj.1
  simp [ByteArray.data_append]
end Go.Proofs.YtjanpaallealgaaDoor.flt
