/-
  Proved: that awake says true. Conditions: as each theorem says.
-/
import Derived.Test.YtjanpaallealgaaGreatDoorFlt10
namespace Go.Proofs.YtjanpaallealgaaGreatDoor.flt
open Go.RowKit Ieee
set_option linter.unusedVariables false
set_option maxRecDepth 100000

theorem Num_any (n : Int) (w : World) : Calls Tryz.prog 7 #[.int .i64 n] w fun e w' => e = .returned (.int .i64 n) ∧ w = w' := by
  go_enter Tryz.func7, Tryz.ntmps7
  go_wp2
  go_ret
  exact ⟨rfl, rfl⟩
theorem ofT_tenth : ofT [48, 46, 49] = some 4591870180066957722 := by decide +kernel
theorem ofT_bad : ofT [49, 112, 48] = none := by decide +kernel
theorem txt_tenth : txt 4591870180066957722 = ⟨#[51, 54, 48, 50, 56, 55, 57, 55, 48, 49, 56, 57, 54, 51, 57, 55, 112, 45, 53, 53]⟩ := by decide +kernel
theorem txt_nan : txt 9221120237041090561 = ⟨#[110, 97, 110]⟩ := by decide +kernel
theorem txt_zero : txt 9223372036854775808 = ⟨#[45, 48]⟩ := by decide +kernel
theorem md_small : md 13840687554816376832 4613937818241073152 = 13835058055282163712 := by decide +kernel
theorem true_nan : trueB 9221120237041090561 = false := by decide +kernel
theorem OfText_tenth (w : World) : Calls Tryz.prog 23 #[.string ⟨#[48, 46, 49]⟩] w fun e w' => e = .returned (.tuple #[fv 4591870180066957722, .int .i64 0]) ∧ Below w.heap.size w w' :=
  (OfText_any [48, 46, 49] w (by decide)).mono fun e w' h => ⟨h.1.trans (by unfold ofE; rw [ofT_tenth]), h.2⟩
theorem OfText_bad (w : World) : Calls Tryz.prog 23 #[.string ⟨#[49, 112, 48]⟩] w fun e w' => e = .returned (.tuple #[fv 0, .int .i64 200]) ∧ Below w.heap.size w w' :=
  (OfText_any [49, 112, 48] w (by decide)).mono fun e w' h => ⟨h.1.trans (by unfold ofE; rw [ofT_bad]), h.2⟩
theorem Text_tenth (w : World) : Calls Tryz.prog 36 #[fv 4591870180066957722] w fun e w' => e = .returned (.string ⟨#[51, 54, 48, 50, 56, 55, 57, 55, 48, 49, 56, 57, 54, 51, 57, 55, 112, 45, 53, 53]⟩) ∧ Below w.heap.size w w' :=
  (Text_any _ w (by decide)).mono fun e w' h => ⟨h.1.trans (by rw [txt_tenth]), h.2⟩
theorem Text_nan (w : World) : Calls Tryz.prog 36 #[fv 9221120237041090561] w fun e w' => e = .returned (.string ⟨#[110, 97, 110]⟩) ∧ Below w.heap.size w w' :=
  (Text_any _ w (by decide)).mono fun e w' h => ⟨h.1.trans (by rw [txt_nan]), h.2⟩
theorem Text_zero (w : World) : Calls Tryz.prog 36 #[fv 9223372036854775808] w fun e w' => e = .returned (.string ⟨#[45, 48]⟩) ∧ Below w.heap.size w w' :=
  (Text_any _ w (by decide)).mono fun e w' h => ⟨h.1.trans (by rw [txt_zero]), h.2⟩
attribute [local go_sem] run_bits run_frombits
theorem Copysign_neg (w : World) : Calls Tryz.prog 89 #[fv 0, fv 13830554455654793216] w fun e w' => e = .returned (fv 9223372036854775808) ∧ w = w' := by
  go_enter Tryz.func89, Tryz.ntmps89
  go_wp2_with fail
  go_ret
  exact ⟨ret_f (by decide +kernel), rfl⟩
theorem eq_two : (FloatKind.f64.format.order 13835058055282163712 13835058055282163712 == some Ordering.eq) = true := by decide +kernel
end Go.Proofs.YtjanpaallealgaaGreatDoor.flt
