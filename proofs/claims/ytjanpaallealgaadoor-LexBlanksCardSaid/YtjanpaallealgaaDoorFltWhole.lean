/-
  Proved: plain laws of whole floats. Conditions: as each theorem says. No program is in sight.
-/
import Derived.Test.YtjanpaallealgaaDoorFltVal2
namespace Go.Proofs.YtjanpaallealgaaDoor.flt
open Go Ieee Go.RowKit

theorem cut_down (s : Bool) (n d : Nat) : Toward.zero.cut s n d = n / 2 ^ d := by
  unfold Toward.cut
  simp only [Nat.one_shiftLeft, Bool.toNat_false, Nat.add_zero]
  by_cases h : d ≤ n.log2 + 2
  · rw [Nat.min_eq_left h]
  · rw [Nat.min_eq_right (by omega)]
    have h1 : n < 2 ^ (n.log2 + 2) := by
      by_cases hn : n = 0
      · subst hn; exact Nat.two_pow_pos _
      · have := ((Nat.log2_eq_iff hn).1 rfl).2
        exact Nat.lt_trans this (Nat.pow_lt_pow_right (by omega) (by omega))
    have h2 : n < 2 ^ d := Nat.lt_of_lt_of_le h1 (Nat.pow_le_pow_right (by omega) (by omega))
    rw [Nat.div_eq_of_lt h1, Nat.div_eq_of_lt h2]
/-- How many whole ones a float's magnitude holds. -/
def tr (a : Nat) : Nat := mg (rung a) / 2 ^ PP
def trunc (a : Nat) : Nat := double.write ((double.read a).integral .zero)
theorem cut_fin (s : Bool) (m p : Nat) : Toward.zero.cut s (m <<< (-1074 + (p : Int)).toNat) (-(-1074 + (p : Int))).toNat = m * 2 ^ p / 2 ^ PP := by
  rw [cut_down, Nat.shiftLeft_eq]
  have h := hPP
  by_cases hp : PP ≤ p
  · have a1 : (-(-1074 + (p : Int))).toNat = 0 := by omega
    have a2 : (-1074 + (p : Int)).toNat = p - PP := by omega
    rw [a1, a2, Nat.pow_zero, Nat.div_one]
    have : 2 ^ p = 2 ^ (p - PP) * 2 ^ PP := by rw [← Nat.pow_add, Nat.sub_add_cancel hp]
    rw [this, ← Nat.mul_assoc, Nat.mul_div_cancel _ (Nat.two_pow_pos _)]
  · have a1 : (-1074 + (p : Int)).toNat = 0 := by omega
    have a2 : (-(-1074 + (p : Int))).toNat = PP - p := by omega
    rw [a1, a2, Nat.pow_zero, Nat.mul_one]
    have : 2 ^ PP = 2 ^ (PP - p) * 2 ^ p := by rw [← Nat.pow_add, Nat.sub_add_cancel (by omega)]
    rw [this, Nat.mul_div_mul_right _ _ (Nat.two_pow_pos _)]
theorem trunc_fin (a : Nat) (h : fin a) : trunc a = double.nearest (sgn a) (tr a) 0 := by
  unfold trunc
  rw [read_fin a h]
  simp only [Datum.integral, Format.write]
  rw [cut_fin]
  rfl
theorem toInt_fin (a : Nat) (h : fin a) : (double.read a).toInt .zero = some (if sgn a then -(tr a : Int) else (tr a : Int)) := by
  rw [read_fin a h]
  unfold Datum.toInt
  simp only [Datum.integral]
  rw [cut_fin, signed_val, Nat.pow_zero, Nat.mul_one]
  rfl
theorem fin_cases (b : Nat) (h : b < 18446744073709551616) : fin b ∨ (rung b = 9218868437227405312 ∧ double.read b = .infinity (sgn b)) ∨ (9218868437227405312 < rung b ∧ nanB b = true) := by
  unfold fin
  by_cases h1 : rung b < 9218868437227405312
  · exact .inl ⟨h, h1⟩
  · right
    unfold rung at *
    by_cases h2 : b % 9223372036854775808 = 9218868437227405312
    · left
      refine ⟨h2, ?_⟩
      unfold Format.read
      simp only [e1, e2, e3, e4]
      rw [if_neg (by omega), if_neg (by omega), if_pos h2, sgn_read b h]
    · right
      refine ⟨by omega, ?_⟩
      unfold nanB Format.read
      simp only [e1, e2, e3, e4]
      rw [if_neg (by omega), if_neg (by omega), if_neg h2]
      rfl
def geB (a c : Nat) : Bool := double.order a c == some .gt || double.order a c == some .eq
def leB (a c : Nat) : Bool := double.order a c == some .lt || double.order a c == some .eq
def eqB (a c : Nat) : Bool := double.order a c == some .eq
theorem cmp_ge (x y : Int) : (compare x y = .gt ∨ compare x y = .eq) ↔ y ≤ x := by
  simp only [compare, compareOfLessAndEq]
  split
  · simp; omega
  · split
    · simp; omega
    · simp; omega
theorem cmp_le (x y : Int) : (compare x y = .lt ∨ compare x y = .eq) ↔ x ≤ y := by
  simp only [compare, compareOfLessAndEq]
  split
  · simp; omega
  · split
    · simp; omega
    · simp; omega
theorem cmp_eq (x y : Int) : (compare x y = .eq) ↔ x = y := by
  simp only [compare, compareOfLessAndEq]
  split
  · simp; omega
  · split
    · simp; omega
    · simp; omega
theorem geB_fin (a c : Nat) (ha : fin a) (hc : fin c) : geB a c = decide (val c ≤ val a) := by
  unfold geB
  rw [order_fin a c ha hc, Bool.eq_iff_iff, decide_eq_true_iff, ← cmp_ge]
  simp
theorem leB_fin (a c : Nat) (ha : fin a) (hc : fin c) : leB a c = decide (val a ≤ val c) := by
  unfold leB
  rw [order_fin a c ha hc, Bool.eq_iff_iff, decide_eq_true_iff, ← cmp_le]
  simp
theorem eqB_fin (a c : Nat) (ha : fin a) (hc : fin c) : eqB a c = decide (val a = val c) := by
  unfold eqB
  rw [order_fin a c ha hc, Bool.eq_iff_iff, decide_eq_true_iff, ← cmp_eq]
  simp
abbrev top : Nat := 4845873199050653696
abbrev bot : Nat := 14069245235905429504
theorem top_eq : top = double.nearest false 9007199254740992 0 := by decide +kernel
theorem bot_eq : bot = double.nearest true 9007199254740992 0 := by decide +kernel
theorem fin_top : fin top := by rw [top_eq]; exact fin_int _ _ (by omega)
theorem fin_bot : fin bot := by rw [bot_eq]; exact fin_int _ _ (by omega)
theorem val_top : val top = ((9007199254740992 * 2 ^ PP : Nat) : Int) := by rw [top_eq, val_int _ _ (by omega)]; rfl
theorem val_bot : val bot = -((9007199254740992 * 2 ^ PP : Nat) : Int) := by rw [bot_eq, val_int _ _ (by omega)]; rfl
def inW (a : Nat) : Bool := geB a bot && leB a top
theorem inW_iff (a : Nat) (h : a < 18446744073709551616) : inW a = true ↔ fin a ∧ mg (rung a) ≤ 9007199254740992 * 2 ^ PP := by
  rcases fin_cases a h with hf | ⟨h1, h2⟩ | ⟨h1, h2⟩
  · unfold inW
    rw [geB_fin a bot hf fin_bot, leB_fin a top hf fin_top, val_top, val_bot, Bool.and_eq_true, decide_eq_true_iff, decide_eq_true_iff]
    unfold val
    generalize 9007199254740992 * 2 ^ PP = T
    constructor
    · intro hh
      refine ⟨hf, ?_⟩
      split at hh <;> omega
    · intro hh
      split <;> omega
  · constructor
    · intro hh
      exfalso
      have r1 := read_fin bot fin_bot
      have r2 := read_fin top fin_top
      have o1 : double.order a bot = some (if sgn a then .lt else .gt) := by unfold Format.order; rw [h2, r1]; rfl
      have o2 : double.order a top = some (if sgn a then .lt else .gt) := by unfold Format.order; rw [h2, r2]; rfl
      unfold inW geB leB at hh
      rw [o1, o2] at hh
      cases hs : sgn a <;> rw [hs] at hh <;> simp at hh
    · intro hh; have := hh.1.2; omega
  · constructor
    · intro hh
      exfalso
      unfold nanB at h2
      unfold inW geB leB Format.order at hh
      cases hr : double.read a <;> rw [hr] at h2 hh <;> simp [Datum.order, Datum.isNaN] at h2 hh
    · intro hh; have := hh.1.2; omega
theorem tr_le (a : Nat) (h : a < 18446744073709551616) (hw : inW a = true) : tr a ≤ 9007199254740992 := by
  have := ((inW_iff a h).1 hw).2
  unfold tr
  exact Nat.le_of_lt_succ (Nat.div_lt_of_lt_mul (by rw [Nat.mul_comm]; have := Nat.two_pow_pos PP; omega))
/-- The whole number that a float is. -/
def trI (a : Nat) : Int := if sgn a then -(tr a : Int) else (tr a : Int)
def isW (a : Nat) : Bool := inW a && eqB a (trunc a)
def wholeV (a : Nat) : Option Int := if isW a then some (trI a) else none
theorem toVal (a : Nat) (h : a < 18446744073709551616) (hw : inW a = true) : floatToIntVal .f64 a .i64 = some (trI a) := by
  have hl := tr_le a h hw
  have hf := ((inW_iff a h).1 hw).1
  have ht : (FloatKind.decode .f64 a).toInt .zero = some (trI a) := toInt_fin a hf
  unfold floatToIntVal
  rw [ht]
  have hb : IntKind.i64.min ≤ trI a ∧ trI a ≤ IntKind.i64.max := by
    have m1 : IntKind.i64.min = -9223372036854775808 := by decide
    have m2 : IntKind.i64.max = 9223372036854775807 := by decide
    rw [m1, m2]
    unfold trI
    split <;> omega
  simp only [hb, and_self, if_true]
theorem fin_trunc (a : Nat) (h : a < 18446744073709551616) (hw : inW a = true) : fin (trunc a) ∧ val (trunc a) = (if sgn a then -((tr a * 2 ^ PP : Nat) : Int) else ((tr a * 2 ^ PP : Nat) : Int)) := by
  have hl := tr_le a h hw
  have hf := ((inW_iff a h).1 hw).1
  rw [trunc_fin a hf]
  exact ⟨fin_int _ _ hl, val_int _ _ hl⟩
theorem foi_pos (n : Nat) (hl : n ≤ 9007199254740992) : fin (floatOfInt .f64 (n : Int)) ∧ val (floatOfInt .f64 (n : Int)) = ((n * 2 ^ PP : Nat) : Int) := by
  rw [floatOfInt_nat]
  exact ⟨fin_fl _ hl, val_fl _ hl⟩
theorem foi_negA (n : Nat) (hl : n ≤ 9007199254740992) (h0 : ¬ n = 0) : fin (floatOfInt .f64 (-(n : Int))) ∧ val (floatOfInt .f64 (-(n : Int))) = -((n * 2 ^ PP : Nat) : Int) := by
  have hp : 0 < n := Nat.pos_of_ne_zero h0
  rw [floatOfInt_neg _ hp]
  exact ⟨fin_int _ _ hl, (val_int true n hl).trans (if_pos rfl)⟩
theorem foi_negB (n : Nat) (hl : n ≤ 9007199254740992) (h0 : n = 0) : fin (floatOfInt .f64 (-(n : Int))) ∧ val (floatOfInt .f64 (-(n : Int))) = -((n * 2 ^ PP : Nat) : Int) := by
  have h := foi_pos n hl
  have e2 : ((n * 2 ^ PP : Nat) : Int) = 0 := by rw [h0, Nat.zero_mul]; rfl
  have e : (-(n : Int)) = (n : Int) := by clear h e2; omega
  rw [e]
  rw [e2] at h ⊢
  rw [Int.neg_zero]
  exact h
theorem foi_neg (n : Nat) (hl : n ≤ 9007199254740992) : fin (floatOfInt .f64 (-(n : Int))) ∧ val (floatOfInt .f64 (-(n : Int))) = -((n * 2 ^ PP : Nat) : Int) := by
  by_cases h0 : n = 0
  · exact foi_negB n hl h0
  · exact foi_negA n hl h0
theorem fin_trI (a : Nat) (h : a < 18446744073709551616) (hw : inW a = true) : fin (floatOfInt .f64 (trI a)) ∧ val (floatOfInt .f64 (trI a)) = (if sgn a then -((tr a * 2 ^ PP : Nat) : Int) else ((tr a * 2 ^ PP : Nat) : Int)) := by
  have hl := tr_le a h hw
  have e : trI a = if sgn a then -(tr a : Int) else (tr a : Int) := rfl
  rw [e]
  generalize tr a = n at *
  cases hs : sgn a
  · rw [if_neg Bool.false_ne_true, if_neg Bool.false_ne_true]
    exact foi_pos n hl
  · rw [if_pos rfl, if_pos rfl]
    exact foi_neg n hl
/-- Both ways to ask for a whole number answer alike. -/
theorem whole_same (a : Nat) (h : a < 18446744073709551616) (hw : inW a = true) : eqB a (floatOfInt .f64 (trI a)) = eqB a (trunc a) := by
  have hf := ((inW_iff a h).1 hw).1
  rw [eqB_fin a _ hf (fin_trI a h hw).1, eqB_fin a _ hf (fin_trunc a h hw).1, (fin_trI a h hw).2, (fin_trunc a h hw).2]
end Go.Proofs.YtjanpaallealgaaDoor.flt
