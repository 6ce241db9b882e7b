/-
  Proved: FltSums and FltAsks as contracts. Conditions: as each theorem says.
-/
import Derived.Test.YtjanpaallealgaaGreatDoorFlt11
namespace Go.Proofs.YtjanpaallealgaaGreatDoor.flt
open Go.RowKit Ieee
set_option linter.unusedVariables false
set_option maxRecDepth 100000
attribute [local go_sem] fmt64 run_bits run_frombits run_add run_sub run_mul run_quo

theorem same_fr {o : Option Nat} {a b : Nat} (ha : FR o a) (hb : FR o b) (w : World) : Calls Tryz.prog 13 #[fv a, fv b] w fun e w' => e = .returned (.bool true) ∧ w = w' :=
  (same_any a b w).mono fun e w' h => ⟨h.1.trans (by rw [FR_same ha hb]), h.2⟩
theorem same_one (a : Nat) (w : World) : Calls Tryz.prog 13 #[fv a, fv a] w fun e w' => e = .returned (.bool true) ∧ w = w' :=
  (same_any a a w).mono fun e w' h => ⟨h.1.trans (by rw [same_refl]), h.2⟩
end Go.Proofs.YtjanpaallealgaaGreatDoor.flt
