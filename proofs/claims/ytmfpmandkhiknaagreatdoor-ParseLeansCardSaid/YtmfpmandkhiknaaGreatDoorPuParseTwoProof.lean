/-
  Proved: nothing of its own: it names the two theorems of this claim's texts. Conditions: none.
-/
import Derived.Test.YtmfpmandkhiknaaGreatDoorPu35
import Derived.Test.YtmfpmandkhiknaaGreatDoorPu40
#print axioms Go.Proofs.YtmfpmandkhiknaaGreatDoor.parseNests.proved
#print axioms Go.Proofs.YtmfpmandkhiknaaGreatDoor.parseLeans.proved
