/-
  Proved: what the small Go functions on floats return. Conditions: as each theorem says.
-/
import Derived.Test.YtjanpaallealgaaDoorRows
import Derived.Test.YtjanpaallealgaaDoorFltPlain
import Derived.WalkKit
import Derived.WalkLawsBesides
import Derived.WalkSpells
import Derived.Outline
import Derived.Lib.Hide
namespace Go.Proofs.YtjanpaallealgaaDoor.flt
open Go.RowKit Ieee
set_option linter.unusedVariables false

abbrev fv (b : Nat) : Value := .float .f64 b
theorem run_bits (b : Nat) (w : World) : (callFunc 56 #[.float .f64 b]).run Tryd.prog w = .ok (.value (.int .u64 b)) w := by
  rw [run_callFunc_extern Tryd.func56 (by kernel_rfl) (by kernel_rfl) (by kernel_rfl) (e := Extern.MathFloatBits.float64bits) (by kernel_rfl)]
  rfl
theorem run_frombits (n : Int) (w : World) : (callFunc 41 #[.int .u64 n]).run Tryd.prog w = .ok (.value (.float .f64 n.toNat)) w := by
  rw [run_callFunc_extern Tryd.func41 (by kernel_rfl) (by kernel_rfl) (by kernel_rfl) (e := Extern.MathFloatBits.float64frombits) (by kernel_rfl)]
  rfl
theorem fmt64 : FloatKind.f64.format = double := rfl
attribute [local go_sem] fmt64 run_bits run_frombits run_add run_sub run_mul run_quo

set_option maxRecDepth 100000
theorem run_conv_ff (b : Nat) (w : World) : (convert 28 28 (.float .f64 b)).run Tryd.prog w = .ok (.float .f64 b) w :=
  run_convert_float_float w _ _ .f64 .f64 b b (by kernel_rfl) (by kernel_rfl) (by simp [floatToFloatBits])
attribute [local go_sem] run_conv_ff
theorem run_neg {P : Program} (b : Nat) (w : World) : (Op.unary .neg (.float .f64 b)).run P w = .ok (.float .f64 (Op.negFloat .f64 b)) w := by
  simp [Op.unary]
theorem ret_f {a b : Nat} (h : a = b) : Ending.returned (fv a) = .returned (fv b) := by rw [h]
theorem ret_b {a b : Bool} (h : a = b) : Ending.returned (.bool a) = .returned (.bool b) := by rw [h]
theorem bits_xor (a : Nat) (h : a < 18446744073709551616) : bits .xor .u64 (a : Int) 9223372036854775808 = (ng a : Nat) := by
  have hl := ng_lt a h
  have e : (BitVec.ofInt 64 (a : Int) ^^^ BitVec.ofInt 64 9223372036854775808).toNat = ng a := by
    rw [BitVec.toNat_xor, BitVec.ofInt_natCast, BitVec.toNat_ofNat, Nat.mod_eq_of_lt h]
    exact xor_high a h
  show IntKind.u64.wrap (((BitVec.ofInt 64 (a : Int) ^^^ BitVec.ofInt 64 9223372036854775808).toNat : Nat) : Int) = _
  rw [e, IntKind.wrap_u64]
  omega
theorem bits_size (a : Nat) (h : a < 18446744073709551616) : bits .andNot .u64 (a : Int) 9223372036854775808 = (a % 9223372036854775808 : Nat) := by
  have e : (BitVec.ofInt 64 (a : Int) &&& ~~~ BitVec.ofInt 64 9223372036854775808).toNat = a % 9223372036854775808 := by
    rw [BitVec.toNat_and, BitVec.ofInt_natCast, BitVec.toNat_ofNat, Nat.mod_eq_of_lt h]
    exact Nat.and_two_pow_sub_one_eq_mod a 63
  show IntKind.u64.wrap (((BitVec.ofInt 64 (a : Int) &&& ~~~ BitVec.ofInt 64 9223372036854775808).toNat : Nat) : Int) = _
  rw [e, IntKind.wrap_u64]
  omega
attribute [local go_sem] run_neg
theorem below_any (a : Nat) (w : World) (h : a < 18446744073709551616) : Calls Tryd.prog 43 #[fv a] w fun e w' => e = .returned (.bool (decide (9223372036854775808 ≤ a))) ∧ w = w' := by
  go_enter Tryd.func43, Tryd.ntmps43
  go_wp2_with fail
  go_ret
  exact ⟨ret_b (by rw [Bool.eq_iff_iff, beq_iff_eq, decide_eq_true_iff]; omega), rfl⟩
def trueB (a : Nat) : Bool := double.order a 0 != some .eq && !nanB a
theorem order_none (a b : Nat) (hb : nanB b = false) : (double.order a b = none) = (nanB a = true) := by
  unfold Format.order nanB at *
  cases double.read a <;> cases h : double.read b <;> simp_all [Datum.order, Datum.isNaN]
theorem ord_zero (a : Nat) : trueB a = ((double.order a 0 == some .lt) || (double.order a 0 == some .gt)) := by
  have h := order_none a 0 (by decide)
  unfold trueB
  cases ho : double.order a 0 with
  | none => rw [ho] at h; simp at h; simp [h]
  | some o => rw [ho] at h; simp at h; cases o <;> simp [h]
end Go.Proofs.YtjanpaallealgaaDoor.flt
