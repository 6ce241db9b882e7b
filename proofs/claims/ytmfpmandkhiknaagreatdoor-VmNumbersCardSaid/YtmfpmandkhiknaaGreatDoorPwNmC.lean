/-
  Proved: VmNumbers' scripts by the kernel: so many of its first numbers (plain). Conditions: none. No program is in sight.
-/
import Derived.Test.YtmfpmandkhiknaaGreatDoorPwN
set_option linter.unusedVariables false
set_option linter.unusedSimpArgs false
namespace Go.Proofs.YtmfpmandkhiknaaGreatDoor.mkr
theorem nq8 : nAll (nxs.getD 8 []) = true := by decide +kernel
theorem nq9 : nAll (nxs.getD 9 []) = true := by decide +kernel
theorem nq10 : nAll (nxs.getD 10 []) = true := by decide +kernel
end Go.Proofs.YtmfpmandkhiknaaGreatDoor.mkr
