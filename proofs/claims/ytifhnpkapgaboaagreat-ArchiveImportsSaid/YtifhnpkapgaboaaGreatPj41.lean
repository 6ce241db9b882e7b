/-
  Proved: what the program's fault, May give. Conditions: as each theorem says.
-/
import Derived.Test.YtifhnpkapgaboaaGreatPj39
set_option linter.unusedVariables false
set_option linter.unusedSimpArgs false
namespace Go.Proofs.YtifhnpkapgaboaaGreat.arch
open Go.RowKit
open heap
open path (sv str_size cleanB cleanR belowB)
set_option maxRecDepth 100000
def big (e:Ent):Prop:=e.path.length ≤ 9223372036854775000 ∧ e.data.length ≤ 9223372036854775000
end Go.Proofs.YtifhnpkapgaboaaGreat.arch
