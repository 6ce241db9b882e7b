/-
  Proved: VmNumbers' scripts by the kernel: so many of its first numbers (plain). Conditions: none. No program is in sight.
-/
import Derived.Test.YtmfpmandkhiknaaGreatDoorPwN
set_option linter.unusedVariables false
set_option linter.unusedSimpArgs false
namespace Go.Proofs.YtmfpmandkhiknaaGreatDoor.mkr
theorem nq0 : nAll (nxs.getD 0 []) = true := by decide +kernel
theorem nq1 : nAll (nxs.getD 1 []) = true := by decide +kernel
theorem nq2 : nAll (nxs.getD 2 []) = true := by decide +kernel
theorem nq3 : nAll (nxs.getD 3 []) = true := by decide +kernel
end Go.Proofs.YtmfpmandkhiknaaGreatDoor.mkr
