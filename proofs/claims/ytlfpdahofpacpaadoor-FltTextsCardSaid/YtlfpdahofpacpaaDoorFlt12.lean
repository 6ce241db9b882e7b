/-
  Proved: FltSums and FltAsks as contracts. Conditions: as each theorem says.
-/
import Derived.Test.YtlfpdahofpacpaaDoorFlt11
namespace Go.Proofs.YtlfpdahofpacpaaDoor.flt
open Go.RowKit Ieee
set_option linter.unusedVariables false
set_option maxRecDepth 100000
attribute [local go_sem] fmt64 run_bits run_frombits run_add run_sub run_mul run_quo

theorem same_fr {o : Option Nat} {a b : Nat} (ha : FR o a) (hb : FR o b) (w : World) : Calls Tryd.prog 11 #[fv a, fv b] w fun e w' => e = .returned (.bool true) ∧ w = w' :=
  (same_any a b w).mono fun e w' h => ⟨h.1.trans (by rw [FR_same ha hb]), h.2⟩
theorem same_one (a : Nat) (w : World) : Calls Tryd.prog 11 #[fv a, fv a] w fun e w' => e = .returned (.bool true) ∧ w = w' :=
  (same_any a a w).mono fun e w' h => ⟨h.1.trans (by rw [same_refl]), h.2⟩
set_option maxHeartbeats 1000000 in
theorem sums (a b : Nat) (w : World) (ha : a < 18446744073709551616) (hb : b < 18446744073709551616) : Calls Tryd.prog 9 #[.int .u64 a, .int .u64 b] w fun e w' => e = .returned (.bool true) ∧ Below w.heap.size w w' := by
  go_enter Tryd.func9, Tryd.ntmps9
  go_wp2_with fail
  (with_reducible refine (Add_any _ _ _).mono ?_); rintro e w1 ⟨r1, rfl, hf1, hb1⟩
  have HB1 := Lib.hid (fw_below .add a b hb1)
  have HF1 := Lib.hid hf1
  clear hb1 hf1
  go_wp2_with fail
  refine (same_fr HF1.out (fr_ok _ _ _ _) _).mono ?_; rintro e w2 ⟨rfl, rfl⟩
  go_wp2_with fail
  (with_reducible refine (Sub_any _ _ _).mono ?_); rintro e w2 ⟨r2, rfl, hf2, hb2⟩
  have HB2 := Lib.hid (fw_below .sub a b (HB1.out.trans (hb2.mono HB1.out.size)))
  have HF2 := Lib.hid hf2
  clear hb2 hf2
  go_wp2_with fail
  refine (same_fr HF2.out (fr_ok _ _ _ _) _).mono ?_; rintro e w3 ⟨rfl, rfl⟩
  go_wp2_with fail
  (with_reducible refine (Mul_any _ _ _).mono ?_); rintro e w3 ⟨r3, rfl, hf3, hb3⟩
  have HB3 := Lib.hid (fw_below .mul a b (HB2.out.trans (hb3.mono HB2.out.size)))
  have HF3 := Lib.hid hf3
  clear hb3 hf3
  go_wp2_with fail
  refine (same_fr HF3.out (fr_ok _ _ _ _) _).mono ?_; rintro e w4 ⟨rfl, rfl⟩
  go_wp2_with fail
  (with_reducible refine (Div_any _ _ _).mono ?_); rintro e w4 ⟨r4, rfl, hf4, hb4⟩
  have HB4 := Lib.hid (fw_below .quo a b (HB3.out.trans (hb4.mono HB3.out.size)))
  have HF4 := Lib.hid hf4
  clear hb4 hf4
  go_wp2_with fail
  refine (same_fr HF4.out (fr_ok _ _ _ _) _).mono ?_; rintro e w5 ⟨rfl, rfl⟩
  go_wp2_with (first | (go_at_call 33; refine (Neg_any _ _ ha).mono ?_; rintro e w5 ⟨rfl, rfl⟩) | (go_at_call 34; refine (rNeg_any _ _ ha).mono ?_; rintro e w5 ⟨rfl, rfl⟩))
  refine (same_one _ _).mono ?_; rintro e w5 ⟨rfl, rfl⟩
  go_wp2_with fail
  (with_reducible refine (awake_any _).mono ?_); rintro e w6 ⟨rfl, hb6⟩
  have HB6 := Lib.hid (HB4.out.trans (hb6.mono HB4.out.size))
  clear hb6
  go_wp2_with fail
  go_ret
  exact ⟨rfl, HB6.out⟩
set_option maxHeartbeats 1000000 in
theorem asks (a b : Nat) (w : World) (ha : a < 18446744073709551616) (hb : b < 18446744073709551616) : Calls Tryd.prog 7 #[.int .u64 a, .int .u64 b] w fun e w' => e = .returned (.bool true) ∧ Below w.heap.size w w' := by
  have HW := Lib.hid (fun W => Whole_any a W ha)
  have HR := Lib.hid (fun W => rWhole_any a W ha)
  generalize wholeN a = n at *
  generalize isW a = is at *
  go_enter Tryd.func7, Tryd.ntmps7
  go_wp2_with (first | (go_at_call 22; refine (HW.out _).mono ?_; rintro e w1 ⟨rfl, rfl⟩) | (go_at_call 23; refine (HR.out _).mono ?_; rintro e w1 ⟨rfl, rfl⟩) | (go_at_call 24; refine (Equal_any _ _ _).mono ?_; rintro e w1 ⟨rfl, rfl⟩) | (go_at_call 25; refine (Less_any _ _ _).mono ?_; rintro e w1 ⟨rfl, rfl⟩) | (go_at_call 26; refine (True_any _ _).mono ?_; rintro e w1 ⟨rfl, rfl⟩) | (go_at_call 27; refine (rTrue_any _ _).mono ?_; rintro e w1 ⟨rfl, rfl⟩))
  refine (awake_any _).mono ?_; rintro e w6 ⟨rfl, hb6⟩
  go_wp2_with fail
  go_ret
  exact ⟨rfl, hb6⟩
end Go.Proofs.YtlfpdahofpacpaaDoor.flt
