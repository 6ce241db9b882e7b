/-
  Proved: VmNumbers' scripts by the kernel: so many of its first numbers (plain). Conditions: none. No program is in sight.
-/
import Derived.Test.YtmfpmandkhiknaaGreatDoorPwN
set_option linter.unusedVariables false
set_option linter.unusedSimpArgs false
namespace Go.Proofs.YtmfpmandkhiknaaGreatDoor.mkr
theorem nq11 : nAll (nxs.getD 11 []) = true := by decide +kernel
theorem nq12 : nAll (nxs.getD 12 []) = true := by decide +kernel
theorem nq13 : nAll (nxs.getD 13 []) = true := by decide +kernel
end Go.Proofs.YtmfpmandkhiknaaGreatDoor.mkr
