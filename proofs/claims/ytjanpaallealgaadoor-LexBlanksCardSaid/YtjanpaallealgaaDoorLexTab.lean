/-
  Proved: the laid table of blanks, out of the row's condition. Conditions: as each theorem says.
-/
import Derived.Test.YtjanpaallealgaaDoorRows
import Derived.LaidMore
import Derived.Lay
import Derived.Lib.LaidTab
import Derived.Lib.SmallJoins
import Derived.WalkKit
import Derived.Stop.LaidErr
import Derived.SevenTiedAt
import Derived.Stop.Joined
import Derived.Shelf.Strings.Fields
namespace Go.Proofs.YtjanpaallealgaaDoor.lex
open Go Go.RowKit
set_option maxRecDepth 100000

theorem tab_eq : (Rows.laid_strings_asciiSpace : DataW Unit) = Lib.tabData .u8 Lib.asciiSpaceTab := by kernel_rfl
theorem tab_laid (W : World) (r : List (String × DataW Unit)) (h : laidMet Tryd.prog (("strings.asciiSpace", Rows.laid_strings_asciiSpace) :: r) W) : Lib.TabIs Tryd.prog W "strings.asciiSpace" .u8 Lib.asciiSpaceTab := by
  rw [tab_eq] at h
  exact Lib.tabIs_of_head (g := (Tryd.prog.globalNamed "strings.asciiSpace").getD 0) (t := 68) (by kernel_rfl) (by kernel_rfl) Tryd.underlying68 Tryd.underlying5 (by kernel_rfl) (by kernel_rfl) h
end Go.Proofs.YtjanpaallealgaaDoor.lex
