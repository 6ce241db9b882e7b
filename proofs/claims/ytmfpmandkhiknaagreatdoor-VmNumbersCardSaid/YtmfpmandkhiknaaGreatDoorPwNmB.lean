/-
  Proved: VmNumbers' scripts by the kernel: so many of its first numbers (plain). Conditions: none. No program is in sight.
-/
import Derived.Test.YtmfpmandkhiknaaGreatDoorPwN
set_option linter.unusedVariables false
set_option linter.unusedSimpArgs false
namespace Go.Proofs.YtmfpmandkhiknaaGreatDoor.mkr
theorem nq4 : nAll (nxs.getD 4 []) = true := by decide +kernel
theorem nq5 : nAll (nxs.getD 5 []) = true := by decide +kernel
theorem nq6 : nAll (nxs.getD 6 []) = true := by decide +kernel
theorem nq7 : nAll (nxs.getD 7 []) = true := by decide +kernel
end Go.Proofs.YtmfpmandkhiknaaGreatDoor.mkr
