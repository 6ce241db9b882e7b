/-
  Proved: the laid table of blanks, out of the row's condition. Conditions: as each theorem says.
-/
import Derived.Test.YtjanpaallealgaaGreatDoorRows
import Derived.LaidMore
import Derived.Lay
import Derived.Lib.LaidTab
import Derived.Lib.SmallJoins
import Derived.WalkKit
import Derived.Stop.LaidErr
import Derived.SevenTiedAt
import Derived.Stop.Joined
import Derived.Shelf.Strings.Fields
namespace Go.Proofs.YtjanpaallealgaaGreatDoor.lex
open Go Go.RowKit
set_option maxRecDepth 100000

theorem tab_eq : (Rows.laid_strings_asciiSpace : DataW Unit) = Lib.tabData .u8 Lib.asciiSpaceTab := by kernel_rfl
theorem tab_laid (W : World) (r : List (String × DataW Unit)) (h : laidMet Tryz.prog (("strings.asciiSpace", Rows.laid_strings_asciiSpace) :: r) W) : Lib.TabIs Tryz.prog W "strings.asciiSpace" .u8 Lib.asciiSpaceTab := by
  rw [tab_eq] at h
  exact Lib.tabIs_of_head (g := (Tryz.prog.globalNamed "strings.asciiSpace").getD 0) (t := 75) (by kernel_rfl) (by kernel_rfl) Tryz.underlying75 Tryz.underlying5 (by kernel_rfl) (by kernel_rfl) h
end Go.Proofs.YtjanpaallealgaaGreatDoor.lex
