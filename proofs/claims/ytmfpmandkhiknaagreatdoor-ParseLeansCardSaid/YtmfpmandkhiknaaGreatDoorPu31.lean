/-
  Proved: what the document's Recipe returns, of every text. Conditions: as each theorem says.
-/
import Derived.Test.YtmfpmandkhiknaaGreatDoorPu29
import Derived.Test.YtmfpmandkhiknaaGreatDoorPu20
set_option linter.unusedVariables false
set_option linter.unusedSimpArgs false
namespace Go.Proofs.YtmfpmandkhiknaaGreatDoor.par
open Go.RowKit
open heap
open lex (Tk TRow TkAt run_store_float add0 scanL scanF)
open many (envOf st0 recipeR)
set_option maxRecDepth 100000
attribute [local go_sem] run_store_float field_tok0 field_tok3
end Go.Proofs.YtmfpmandkhiknaaGreatDoor.par
