/-
  Proved: what is read of an image's stream is written as it stood, what is written is read as it was; where a fault lies (plain). Conditions: as each theorem says. No program is in sight.
-/
import Derived.Test.YtifhnpkapgaboaaGreatPi31
import Derived.Test.YtifhnpkapgaboaaGreatPi35
set_option linter.unusedVariables false
set_option linter.unusedSimpArgs false
namespace Go.Proofs.YtifhnpkapgaboaaGreat.arch
open Go Go.RowKit
open path (cleanB belowB)
open fld (Fld applyF Sk apply_sk)
theorem mays_all:∀ (ls:List (List Ent)) (n:Nat),maysI ls n = none → ∀ es ∈ ls,(formL es).2 = 0
 | [],n,_,es,h=>by cases h
 | x :: r,n,h,es,he=>by
  rw [maysI] at h
  by_cases h1:(formL x).2 ≠ 0
  ·rw [if_pos h1] at h;cases h
  ·rw [if_neg h1] at h
   rcases List.mem_cons.1 he with rfl | he
   ·exact Classical.byContradiction h1
   ·exact mays_all r _ h es he
end Go.Proofs.YtifhnpkapgaboaaGreat.arch
