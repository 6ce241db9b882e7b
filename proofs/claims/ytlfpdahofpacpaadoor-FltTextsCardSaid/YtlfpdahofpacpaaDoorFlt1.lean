/-
  Proved: what the small Go functions on floats return. Conditions: as each theorem says.
-/
import Derived.Test.YtlfpdahofpacpaaDoorRows
import Derived.Test.YtlfpdahofpacpaaDoorFltPlain
import Derived.WalkKit
import Derived.WalkLawsBesides
import Derived.WalkSpells
import Derived.Outline
import Derived.Lib.Hide
namespace Go.Proofs.YtlfpdahofpacpaaDoor.flt
open Go.RowKit Ieee
set_option linter.unusedVariables false

abbrev fv (b : Nat) : Value := .float .f64 b
theorem run_bits (b : Nat) (w : World) : (callFunc 21 #[.float .f64 b]).run Tryd.prog w = .ok (.value (.int .u64 b)) w := by
  rw [run_callFunc_extern Tryd.func21 (by kernel_rfl) (by kernel_rfl) (by kernel_rfl) (e := Extern.MathFloatBits.float64bits) (by kernel_rfl)]
  rfl
theorem run_frombits (n : Int) (w : World) : (callFunc 10 #[.int .u64 n]).run Tryd.prog w = .ok (.value (.float .f64 n.toNat)) w := by
  rw [run_callFunc_extern Tryd.func10 (by kernel_rfl) (by kernel_rfl) (by kernel_rfl) (e := Extern.MathFloatBits.float64frombits) (by kernel_rfl)]
  rfl
theorem fmt64 : FloatKind.f64.format = double := rfl
attribute [local go_sem] fmt64 run_bits run_frombits run_add run_sub run_mul run_quo

set_option maxRecDepth 100000
theorem Add_any (a b : Nat) (w : World) : Calls Tryd.prog 29 #[fv a, fv b] w fun e w' => ∃ r, e = .returned (fv r) ∧ FR (fop .add a b) r ∧ Below w.heap.size w w' := by
  go_enter Tryd.func29, Tryd.ntmps29
  go_wp2_with fail
  go_ret
  exact ⟨_, rfl, fr_ok _ _ _ _, fw_below _ _ _ (Below.refl _ _)⟩
theorem Sub_any (a b : Nat) (w : World) : Calls Tryd.prog 30 #[fv a, fv b] w fun e w' => ∃ r, e = .returned (fv r) ∧ FR (fop .sub a b) r ∧ Below w.heap.size w w' := by
  go_enter Tryd.func30, Tryd.ntmps30
  go_wp2_with fail
  go_ret
  exact ⟨_, rfl, fr_ok _ _ _ _, fw_below _ _ _ (Below.refl _ _)⟩
theorem Div_any (a b : Nat) (w : World) : Calls Tryd.prog 32 #[fv a, fv b] w fun e w' => ∃ r, e = .returned (fv r) ∧ FR (fop .quo a b) r ∧ Below w.heap.size w w' := by
  go_enter Tryd.func32, Tryd.ntmps32
  go_wp2_with fail
  go_ret
  exact ⟨_, rfl, fr_ok _ _ _ _, fw_below _ _ _ (Below.refl _ _)⟩
theorem run_conv_ff (b : Nat) (w : World) : (convert 23 23 (.float .f64 b)).run Tryd.prog w = .ok (.float .f64 b) w :=
  run_convert_float_float w _ _ .f64 .f64 b b (by kernel_rfl) (by kernel_rfl) (by simp [floatToFloatBits])
attribute [local go_sem] run_conv_ff
theorem Mul_any (a b : Nat) (w : World) : Calls Tryd.prog 31 #[fv a, fv b] w fun e w' => ∃ r, e = .returned (fv r) ∧ FR (fop .mul a b) r ∧ Below w.heap.size w w' := by
  go_enter Tryd.func31, Tryd.ntmps31
  go_wp2_with fail
  go_ret
  exact ⟨_, rfl, fr_ok _ _ _ _, fw_below _ _ _ (Below.refl _ _)⟩

theorem run_neg {P : Program} (b : Nat) (w : World) : (Op.unary .neg (.float .f64 b)).run P w = .ok (.float .f64 (Op.negFloat .f64 b)) w := by
  simp [Op.unary]
theorem ret_f {a b : Nat} (h : a = b) : Ending.returned (fv a) = .returned (fv b) := by rw [h]
theorem ret_b {a b : Bool} (h : a = b) : Ending.returned (.bool a) = .returned (.bool b) := by rw [h]
theorem bits_xor (a : Nat) (h : a < 18446744073709551616) : bits .xor .u64 (a : Int) 9223372036854775808 = (ng a : Nat) := by
  have hl := ng_lt a h
  have e : (BitVec.ofInt 64 (a : Int) ^^^ BitVec.ofInt 64 9223372036854775808).toNat = ng a := by
    rw [BitVec.toNat_xor, BitVec.ofInt_natCast, BitVec.toNat_ofNat, Nat.mod_eq_of_lt h]
    exact xor_high a h
  show IntKind.u64.wrap (((BitVec.ofInt 64 (a : Int) ^^^ BitVec.ofInt 64 9223372036854775808).toNat : Nat) : Int) = _
  rw [e, IntKind.wrap_u64]
  omega
theorem bits_size (a : Nat) (h : a < 18446744073709551616) : bits .andNot .u64 (a : Int) 9223372036854775808 = (a % 9223372036854775808 : Nat) := by
  have e : (BitVec.ofInt 64 (a : Int) &&& ~~~ BitVec.ofInt 64 9223372036854775808).toNat = a % 9223372036854775808 := by
    rw [BitVec.toNat_and, BitVec.ofInt_natCast, BitVec.toNat_ofNat, Nat.mod_eq_of_lt h]
    exact Nat.and_two_pow_sub_one_eq_mod a 63
  show IntKind.u64.wrap (((BitVec.ofInt 64 (a : Int) &&& ~~~ BitVec.ofInt 64 9223372036854775808).toNat : Nat) : Int) = _
  rw [e, IntKind.wrap_u64]
  omega
attribute [local go_sem] run_neg
theorem Neg_any (a : Nat) (w : World) (h : a < 18446744073709551616) : Calls Tryd.prog 33 #[fv a] w fun e w' => e = .returned (fv (ng a)) ∧ w = w' := by
  have hn := neg_ng a h
  go_enter Tryd.func33, Tryd.ntmps33
  go_wp2_with fail
  go_ret
  exact ⟨rfl, rfl⟩
theorem rNeg_any (a : Nat) (w : World) (h : a < 18446744073709551616) : Calls Tryd.prog 34 #[fv a] w fun e w' => e = .returned (fv (ng a)) ∧ w = w' := by
  have hn := neg_ng a h
  go_enter Tryd.func34, Tryd.ntmps34
  go_wp2_with fail
  go_ret
  exact ⟨ret_f (by rw [bits_xor a h]; rfl), rfl⟩
theorem size_any (a : Nat) (w : World) (h : a < 18446744073709551616) : Calls Tryd.prog 38 #[fv a] w fun e w' => e = .returned (fv (a % 9223372036854775808)) ∧ w = w' := by
  go_enter Tryd.func38, Tryd.ntmps38
  go_wp2_with fail
  go_ret
  exact ⟨ret_f (by rw [bits_size a h]; rfl), rfl⟩
theorem below_any (a : Nat) (w : World) (h : a < 18446744073709551616) : Calls Tryd.prog 50 #[fv a] w fun e w' => e = .returned (.bool (decide (9223372036854775808 ≤ a))) ∧ w = w' := by
  go_enter Tryd.func50, Tryd.ntmps50
  go_wp2_with fail
  go_ret
  exact ⟨ret_b (by rw [Bool.eq_iff_iff, beq_iff_eq, decide_eq_true_iff]; omega), rfl⟩
theorem rbelow_any (a : Nat) (w : World) (h : a < 18446744073709551616) : Calls Tryd.prog 39 #[fv a] w fun e w' => e = .returned (.bool (decide (9223372036854775808 ≤ a))) ∧ w = w' := by
  go_enter Tryd.func39, Tryd.ntmps39
  go_wp2_with fail
  go_ret
  exact ⟨ret_b (by rw [Bool.eq_iff_iff, beq_iff_eq, decide_eq_true_iff]; omega), rfl⟩
theorem same_any (a b : Nat) (w : World) : Calls Tryd.prog 11 #[fv a, fv b] w fun e w' => e = .returned (.bool (sameB a b)) ∧ w = w' := by
  have o1 := order_self a
  have o2 := order_self b
  have hs : ((a : Int) == (b : Int)) = (a == b) := by
    rw [Bool.eq_iff_iff, beq_iff_eq, beq_iff_eq]; omega
  unfold sameB
  cases hA : nanB a <;> cases hB : nanB b <;> rw [hA] at o1 <;> rw [hB] at o2 <;>
  · go_enter Tryd.func11, Tryd.ntmps11
    go_wp2_with fail
    all_goals
      go_ret
      exact ⟨ret_b (by simp_all), rfl⟩
theorem Equal_any (a b : Nat) (w : World) : Calls Tryd.prog 24 #[fv a, fv b] w fun e w' => e = .returned (.bool (double.order a b == some .eq)) ∧ w = w' := by
  go_enter Tryd.func24, Tryd.ntmps24
  go_wp2_with fail
  go_ret
  exact ⟨rfl, rfl⟩
theorem Less_any (a b : Nat) (w : World) : Calls Tryd.prog 25 #[fv a, fv b] w fun e w' => e = .returned (.bool (double.order a b == some .lt)) ∧ w = w' := by
  go_enter Tryd.func25, Tryd.ntmps25
  go_wp2_with fail
  go_ret
  exact ⟨rfl, rfl⟩
def trueB (a : Nat) : Bool := double.order a 0 != some .eq && !nanB a
theorem True_any (a : Nat) (w : World) : Calls Tryd.prog 26 #[fv a] w fun e w' => e = .returned (.bool (trueB a)) ∧ w = w' := by
  have o1 := order_self a
  unfold trueB
  cases hA : nanB a <;> rw [hA] at o1 <;>
  · go_enter Tryd.func26, Tryd.ntmps26
    go_wp2_with fail
    all_goals
      go_ret
      exact ⟨ret_b (by simp_all), rfl⟩
theorem order_none (a b : Nat) (hb : nanB b = false) : (double.order a b = none) = (nanB a = true) := by
  unfold Format.order nanB at *
  cases double.read a <;> cases h : double.read b <;> simp_all [Datum.order, Datum.isNaN]
theorem ord_zero (a : Nat) : trueB a = ((double.order a 0 == some .lt) || (double.order a 0 == some .gt)) := by
  have h := order_none a 0 (by decide)
  unfold trueB
  cases ho : double.order a 0 with
  | none => rw [ho] at h; simp at h; simp [h]
  | some o => rw [ho] at h; simp at h; cases o <;> simp [h]
theorem rTrue_any (a : Nat) (w : World) : Calls Tryd.prog 27 #[fv a] w fun e w' => e = .returned (.bool (trueB a)) ∧ w = w' := by
  have hc := ord_zero a
  go_enter Tryd.func27, Tryd.ntmps27
  go_wp2_with fail
  all_goals
    go_ret
    exact ⟨ret_b (by simp_all), rfl⟩
end Go.Proofs.YtlfpdahofpacpaaDoor.flt
