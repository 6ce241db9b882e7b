/-
  Proved: that awake says true. Conditions: as each theorem says.
-/
import Derived.Test.YtlfpdahofpacpaaDoorFlt10
namespace Go.Proofs.YtlfpdahofpacpaaDoor.flt
open Go.RowKit Ieee
set_option linter.unusedVariables false
set_option maxRecDepth 100000

theorem Num_any (n : Int) (w : World) : Calls Tryd.prog 19 #[.int .i64 n] w fun e w' => e = .returned (.int .i64 n) ∧ w = w' := by
  go_enter Tryd.func19, Tryd.ntmps19
  go_wp2
  go_ret
  exact ⟨rfl, rfl⟩
theorem ofT_tenth : ofT [48, 46, 49] = some 4591870180066957722 := by decide +kernel
theorem ofT_bad : ofT [49, 112, 48] = none := by decide +kernel
theorem txt_tenth : txt 4591870180066957722 = ⟨#[51, 54, 48, 50, 56, 55, 57, 55, 48, 49, 56, 57, 54, 51, 57, 55, 112, 45, 53, 53]⟩ := by decide +kernel
theorem txt_nan : txt 9221120237041090561 = ⟨#[110, 97, 110]⟩ := by decide +kernel
theorem txt_zero : txt 9223372036854775808 = ⟨#[45, 48]⟩ := by decide +kernel
theorem md_small : md 13840687554816376832 4613937818241073152 = 13835058055282163712 := by decide +kernel
theorem true_nan : trueB 9221120237041090561 = false := by decide +kernel
theorem OfText_tenth (w : World) : Calls Tryd.prog 15 #[.string ⟨#[48, 46, 49]⟩] w fun e w' => e = .returned (.tuple #[fv 4591870180066957722, .int .i64 0]) ∧ Below w.heap.size w w' :=
  (OfText_any [48, 46, 49] w (by decide)).mono fun e w' h => ⟨h.1.trans (by unfold ofE; rw [ofT_tenth]), h.2⟩
theorem OfText_bad (w : World) : Calls Tryd.prog 15 #[.string ⟨#[49, 112, 48]⟩] w fun e w' => e = .returned (.tuple #[fv 0, .int .i64 200]) ∧ Below w.heap.size w w' :=
  (OfText_any [49, 112, 48] w (by decide)).mono fun e w' h => ⟨h.1.trans (by unfold ofE; rw [ofT_bad]), h.2⟩
theorem Text_tenth (w : World) : Calls Tryd.prog 17 #[fv 4591870180066957722] w fun e w' => e = .returned (.string ⟨#[51, 54, 48, 50, 56, 55, 57, 55, 48, 49, 56, 57, 54, 51, 57, 55, 112, 45, 53, 53]⟩) ∧ Below w.heap.size w w' :=
  (Text_any _ w (by decide)).mono fun e w' h => ⟨h.1.trans (by rw [txt_tenth]), h.2⟩
theorem Text_nan (w : World) : Calls Tryd.prog 17 #[fv 9221120237041090561] w fun e w' => e = .returned (.string ⟨#[110, 97, 110]⟩) ∧ Below w.heap.size w w' :=
  (Text_any _ w (by decide)).mono fun e w' h => ⟨h.1.trans (by rw [txt_nan]), h.2⟩
theorem Text_zero (w : World) : Calls Tryd.prog 17 #[fv 9223372036854775808] w fun e w' => e = .returned (.string ⟨#[45, 48]⟩) ∧ Below w.heap.size w w' :=
  (Text_any _ w (by decide)).mono fun e w' h => ⟨h.1.trans (by rw [txt_zero]), h.2⟩
theorem Mod_small (w : World) : Calls Tryd.prog 12 #[fv 13840687554816376832, fv 4613937818241073152] w fun e w' => e = .returned (fv 13835058055282163712) ∧ w = w' :=
  (fMod_any _ _ w (by decide) (by decide)).mono fun e w' h => ⟨h.1.trans (by rw [md_small]), h.2⟩
theorem True_nan (w : World) : Calls Tryd.prog 26 #[fv 9221120237041090561] w fun e w' => e = .returned (.bool false) ∧ w = w' :=
  (True_any _ w).mono fun e w' h => ⟨h.1.trans (by rw [true_nan]), h.2⟩
attribute [local go_sem] run_bits run_frombits
theorem Copysign_neg (w : World) : Calls Tryd.prog 40 #[fv 0, fv 13830554455654793216] w fun e w' => e = .returned (fv 9223372036854775808) ∧ w = w' := by
  go_enter Tryd.func40, Tryd.ntmps40
  go_wp2_with fail
  go_ret
  exact ⟨ret_f (by decide +kernel), rfl⟩
theorem eq_two : (FloatKind.f64.format.order 13835058055282163712 13835058055282163712 == some Ordering.eq) = true := by decide +kernel
set_option maxHeartbeats 1000000 in
theorem awake_any (w : World) : Calls Tryd.prog 14 #[] w fun e w' => e = .returned (.bool true) ∧ Below w.heap.size w w' := by
  have he := eq_two
  go_enter Tryd.func14, Tryd.ntmps14
  go_wp2_with fail
  (with_reducible refine (OfText_tenth _).mono ?_); rintro e w1 ⟨rfl, hb1⟩
  go_wp2_with fail
  (with_reducible refine (OfText_bad _).mono ?_); rintro e w2 ⟨rfl, hb2⟩
  have HB2 := Lib.hid (hb1.trans (hb2.mono hb1.size))
  clear hb1 hb2
  go_wp2_with fail
  (with_reducible refine (Text_tenth _).mono ?_); rintro e w3 ⟨rfl, hb3⟩
  have HB3 := Lib.hid (HB2.out.trans (hb3.mono HB2.out.size))
  clear hb3
  go_wp2_with (first | (go_at_call 19; refine (Num_any _ _).mono ?_; rintro e w' ⟨rfl, rfl⟩) | (go_at_call 37; refine (NaN_any _).mono ?_; rintro e w' ⟨rfl, rfl⟩))
  (with_reducible refine (Text_nan _).mono ?_); rintro e w4 ⟨rfl, hb4⟩
  have HB4 := Lib.hid (HB3.out.trans (hb4.mono HB3.out.size))
  clear hb4
  go_wp2_with (first | (go_at_call 40; refine (Copysign_neg _).mono ?_; rintro e w' ⟨rfl, rfl⟩))
  (with_reducible refine (Text_zero _).mono ?_); rintro e w5 ⟨rfl, hb5⟩
  have HB5 := Lib.hid (HB4.out.trans (hb5.mono HB4.out.size))
  clear hb5
  go_wp2_with (first | (go_at_call 12; refine (Mod_small _).mono ?_; rintro e w' ⟨rfl, rfl⟩) | (go_at_call 37; refine (NaN_any _).mono ?_; rintro e w' ⟨rfl, rfl⟩) | (go_at_call 26; refine (True_nan _).mono ?_; rintro e w' ⟨rfl, rfl⟩))
  go_ret
  exact ⟨rfl, HB5.out⟩
end Go.Proofs.YtlfpdahofpacpaaDoor.flt
