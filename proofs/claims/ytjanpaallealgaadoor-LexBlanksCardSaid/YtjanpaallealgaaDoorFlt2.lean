/-
  Proved: what Whole returns, in the code and in the document's answer. Conditions: as each theorem says.
-/
import Derived.Test.YtjanpaallealgaaDoorFlt1
import Derived.Test.YtjanpaallealgaaDoorFltWhole
import Derived.Laws.FloatArith
namespace Go.Proofs.YtjanpaallealgaaDoor.flt
open Go.RowKit Ieee
set_option linter.unusedVariables false
set_option maxRecDepth 100000

theorem trunc_ext (b : Nat) (h : nanB b = false) : Extern.MathFloor.toIntegral "math.archTrunc" .zero #[.float .f64 b] = pure (.float .f64 (trunc b)) := by
  have h1 : Extern.MathFloor.toIntegral "math.archTrunc" .zero #[.float .f64 b] = (match double.read b with
    | .nan s t => (if double.quiet t = t then pure (Value.float .f64 b) else (choose (.extern "math.Floor,Ceil,Trunc,RoundToEven.signallingNaN kept" 2) >>= fun kept => pure (.float .f64 (if kept == 1 then b else double.write (.nan s (double.quiet t))))))
    | d => pure (.float .f64 (double.write (d.integral .zero)))) := rfl
  rw [h1]
  unfold trunc
  unfold nanB at h
  cases hd : double.read b with
  | number s m i => rfl
  | infinity s => rfl
  | nan s t => rw [hd] at h; cases h
theorem run_trunc (b : Nat) (h : nanB b = false) (w : World) : (callFunc 74 #[.float .f64 b]).run Tryd.prog w = .ok (.value (.float .f64 (trunc b))) w := by
  rw [run_callFunc_extern Tryd.func74 (by kernel_rfl) (by kernel_rfl) (by kernel_rfl) (e := Extern.MathFloor.toIntegral "math.archTrunc" .zero) (by kernel_rfl)]
  rw [trunc_ext b h]
  rfl
theorem Trunc_any (a : Nat) (w : World) (h : nanB a = false) : Calls Tryd.prog 57 #[fv a] w fun e w' => e = .returned (fv (trunc a)) ∧ w = w' := by
  have ht := fun W => run_trunc a h W
  go_enter Tryd.func57, Tryd.ntmps57
  go_wp2_with fail
  go_ret
  exact ⟨rfl, rfl⟩
theorem inW_nan (a : Nat) (h : inW a = true) : nanB a = false := by
  unfold inW geB leB Format.order at h
  unfold nanB
  cases hr : double.read a <;> rw [hr] at h <;> simp_all [Datum.order, Datum.isNaN]
theorem geq_cases (a c : Nat) (w : World) (t : TypeId) : (binOp .geq t (.float .f64 a) (.float .f64 c)).run Tryd.prog w = .ok (.bool (geB a c)) w := by
  go_simp
  unfold geB
  rfl
theorem leq_cases (a c : Nat) (w : World) (t : TypeId) : (binOp .leq t (.float .f64 a) (.float .f64 c)).run Tryd.prog w = .ok (.bool (leB a c)) w := by
  go_simp
  unfold leB
  rfl
theorem eql_cases (a c : Nat) (w : World) (t : TypeId) : (binOp .eql t (.float .f64 a) (.float .f64 c)).run Tryd.prog w = .ok (.bool (eqB a c)) w := by
  go_simp
  unfold eqB
  rfl
theorem neq_cases (a c : Nat) (w : World) (t : TypeId) : (binOp .neq t (.float .f64 a) (.float .f64 c)).run Tryd.prog w = .ok (.bool (!eqB a c)) w := by
  go_simp
  unfold eqB
  rfl
theorem geR {a : Nat} {c : Nat} {b : Bool} (h : geB a c = b) : (FloatKind.f64.format.order a c == some Ordering.gt || FloatKind.f64.format.order a c == some Ordering.eq) = b := h
theorem leR {a : Nat} {c : Nat} {b : Bool} (h : leB a c = b) : (FloatKind.f64.format.order a c == some Ordering.lt || FloatKind.f64.format.order a c == some Ordering.eq) = b := h
theorem eqR {a : Nat} {c : Nat} {b : Bool} (h : eqB a c = b) : (FloatKind.f64.format.order a c == some Ordering.eq) = b := h
theorem neR {a : Nat} {c : Nat} {b : Bool} (h : eqB a c = b) : (FloatKind.f64.format.order a c != some Ordering.eq) = !b := by
  have h' : (FloatKind.f64.format.order a c == some Ordering.eq) = b := h
  rw [bne, h']
theorem gtR {a : Nat} {c : Nat} {b : Bool} (h : (double.order a c == some Ordering.gt) = b) : (FloatKind.f64.format.order a c == some Ordering.gt) = b := h
theorem ltR {a : Nat} {c : Nat} {b : Bool} (h : (double.order a c == some Ordering.lt) = b) : (FloatKind.f64.format.order a c == some Ordering.lt) = b := h
theorem conv_fi (a : Nat) (h : a < 18446744073709551616) (hw : inW a = true) (w : World) : (convert 28 3 (.float .f64 a)).run Tryd.prog w = .ok (.int .i64 (trI a)) w :=
  run_convert_float_int w _ _ .f64 .i64 a (trI a) (by kernel_rfl) (by kernel_rfl) (toVal a h hw)
theorem conv_if (n : Int) (w : World) : (convert 3 28 (.int .i64 n)).run Tryd.prog w = .ok (.float .f64 (floatOfInt .f64 n)) w :=
  run_convert_int_float w _ _ .i64 .f64 n (by kernel_rfl) (by kernel_rfl)
/-- What Whole gives. -/
def wholeN (a : Nat) : Int := if isW a then trI a else 0
theorem Whole_any (a : Nat) (w : World) (h : a < 18446744073709551616) : Calls Tryd.prog 44 #[fv a] w fun e w' => e = .returned (.tuple #[.int .i64 (wholeN a), .bool (isW a)]) ∧ w = w' := by
  cases hw : inW a
  · have e1 : isW a = false := by unfold isW; rw [hw]; rfl
    have e2 : wholeN a = 0 := by unfold wholeN; rw [e1]; rfl
    rw [e1, e2]
    unfold inW at hw
    clear e1 e2 h
    cases h1 : geB a bot
    · clear hw
      replace h1 := geR h1
      go_enter Tryd.func44, Tryd.ntmps44
      go_wp2_with fail
      go_ret2
      exact ⟨rfl, rfl⟩
    · rw [h1, Bool.true_and] at hw
      replace h1 := geR h1
      replace hw := leR hw
      go_enter Tryd.func44, Tryd.ntmps44
      go_wp2_with fail
      go_ret2
      exact ⟨rfl, rfl⟩
  · have hn := inW_nan a hw
    have HT := Lib.hid (fun W => Trunc_any a W hn)
    have HC := fun W => conv_fi a h hw W
    have e1 : isW a = eqB a (trunc a) := by unfold isW; rw [hw]; rfl
    unfold wholeN
    rw [e1]
    have h1 : geB a bot = true := by unfold inW at hw; exact (Bool.and_eq_true_iff.1 hw).1
    have h2 : leB a top = true := by unfold inW at hw; exact (Bool.and_eq_true_iff.1 hw).2
    replace h1 := geR h1
    replace h2 := leR h2
    clear e1 hn h hw
    generalize trI a = n at *
    generalize trunc a = u at *
    cases he : eqB a u
    all_goals
      have hne := neR he
      simp only [Bool.not_false, Bool.not_true] at hne
      replace he := eqR he
      go_enter Tryd.func44, Tryd.ntmps44
      go_wp2_with (go_at_call 57; refine (HT.out _).mono ?_; rintro e w1 ⟨rfl, rfl⟩)
      go_ret2
      exact ⟨rfl, rfl⟩
end Go.Proofs.YtjanpaallealgaaDoor.flt
