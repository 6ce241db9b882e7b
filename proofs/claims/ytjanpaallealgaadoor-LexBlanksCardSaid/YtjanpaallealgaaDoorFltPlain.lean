/-
  Proved: plain laws of floats by their bits. Conditions: as each theorem says. No program is in sight.
-/
import Derived.Laws.FloatArith
import Derived.Below
import Derived.Laws.NewFold
namespace Go.Proofs.YtjanpaallealgaaDoor.flt
open Go Ieee Go.RowKit

/-- The bits of a float that is none. -/
def nanB (b : Nat) : Bool := (double.read b).isNaN
/-- What an operation may give: its bits, or, where it has none, those of a NaN. -/
def FR (o : Option Nat) (r : Nat) : Prop := (∀ x, o = some x → r = x) ∧ (o = none → nanB r = true) ∧ r < 18446744073709551616
def fop (op : BinOp) (x y : Nat) : Option Nat := floatBits op .f64 x y
def fr (op : BinOp) (x y : Nat) (w : World) : Nat := match fop op x y with
  | some r => r
  | none => (Question.nanBits .f64 x y).cut (w.tape w.drawn (.nanBits .f64 x y))
def fw (op : BinOp) (x y : Nat) (w : World) : World := match fop op x y with
  | some _ => w
  | none => w.drew
theorem nan_cut (x y t : Nat) : nanB ((Question.nanBits .f64 x y).cut t) = true ∧ (Question.nanBits .f64 x y).cut t < 18446744073709551616 := by
  have h : (Question.nanBits .f64 x y).cut t = (t % 2) * 9223372036854775808 + 9218868437227405312 + 1 + (t / 2) % 4503599627370495 := rfl
  rw [h]
  have h2 : (t / 2) % 4503599627370495 < 4503599627370495 := Nat.mod_lt _ (by omega)
  generalize (t / 2) % 4503599627370495 = u at *
  refine ⟨?_, by omega⟩
  have h3 : (t % 2) * 9223372036854775808 + 9218868437227405312 + 1 + u = (t % 2) * 9223372036854775808 + (9218868437227405313 + u) := by omega
  rw [h3]
  have e1 : double.signWeight = 9223372036854775808 := by decide
  have e2 : double.binade = 4503599627370496 := by decide
  have e3 : double.infRung = 9218868437227405312 := by decide
  unfold nanB Format.read
  simp only [e1, e2, e3]
  have h4 : ((t % 2) * 9223372036854775808 + (9218868437227405313 + u)) % 9223372036854775808 = 9218868437227405313 + u := by omega
  rw [h4, if_neg (by omega), if_neg (by omega), if_neg (by omega)]
  rfl
theorem fop_lt {op : BinOp} {x y r : Nat} (h : fop op x y = some r) : r < 18446744073709551616 := by
  have := floatBits_wf h
  simpa [Lit.wf] using this
theorem fr_ok (op : BinOp) (x y : Nat) (w : World) : FR (fop op x y) (fr op x y w) := by
  unfold FR fr
  split
  · rename_i r h; rw [h]; exact ⟨fun x hx => Option.some.inj hx, fun hx => (by cases hx), fop_lt h⟩
  · rename_i h; rw [h]; exact ⟨fun x hx => (by cases hx), fun _ => (nan_cut x y _).1, (nan_cut x y _).2⟩
theorem fw_cases (op : BinOp) (x y : Nat) (w : World) : fw op x y w = w ∨ fw op x y w = w.drew := by
  unfold fw
  split
  · exact .inl rfl
  · exact .inr rfl
theorem run_f {P : Program} (op : BinOp) (hop : op = .add ∨ op = .sub ∨ op = .mul ∨ op = .quo) (t : TypeId) (x y : Nat) (w : World) :
    (binOp op t (.float .f64 x) (.float .f64 y)).run P w = .ok (.float .f64 (fr op x y w)) (fw op x y w) := by
  unfold fr fw
  cases h : fop op x y with
  | some r => exact run_float_arith w op t .f64 x y r h
  | none =>
    rcases hop with rfl | rfl | rfl | rfl <;>
    · have h' := h
      unfold fop floatBits at h'
      simp only at h'
      simp [binOp, Op.floatArith, h', run_choose_drew, Question.forced]
theorem run_add {P : Program} (t : TypeId) (x y : Nat) (w : World) : (binOp .add t (.float .f64 x) (.float .f64 y)).run P w = .ok (.float .f64 (fr .add x y w)) (fw .add x y w) := run_f _ (by simp) t x y w
theorem run_sub {P : Program} (t : TypeId) (x y : Nat) (w : World) : (binOp .sub t (.float .f64 x) (.float .f64 y)).run P w = .ok (.float .f64 (fr .sub x y w)) (fw .sub x y w) := run_f _ (by simp) t x y w
theorem run_mul {P : Program} (t : TypeId) (x y : Nat) (w : World) : (binOp .mul t (.float .f64 x) (.float .f64 y)).run P w = .ok (.float .f64 (fr .mul x y w)) (fw .mul x y w) := run_f _ (by simp) t x y w
theorem run_quo {P : Program} (t : TypeId) (x y : Nat) (w : World) : (binOp .quo t (.float .f64 x) (.float .f64 y)).run P w = .ok (.float .f64 (fr .quo x y w)) (fw .quo x y w) := run_f _ (by simp) t x y w
theorem drew_heap (w : World) : w.drew.heap = w.heap := rfl
theorem fw_heap (op : BinOp) (x y : Nat) (w : World) : (fw op x y w).heap = w.heap := by
  rcases fw_cases op x y w with h | h <;> rw [h] <;> rfl
theorem fw_size (op : BinOp) (x y : Nat) (w : World) : (fw op x y w).heap.size = w.heap.size := by rw [fw_heap]
theorem fw_below (op : BinOp) (x y : Nat) {n : Nat} {W w : World} (h : Below n W w) : Below n W (fw op x y w) := by
  rcases fw_cases op x y w with h1 | h1 <;> rw [h1]
  · exact h
  · exact h.drew
theorem order_self (b : Nat) : (double.order b b == some .eq) = !nanB b := by
  unfold Format.order nanB
  cases h : double.read b with
  | number s m i => simp [Datum.order, Datum.isNaN]
  | infinity s => simp [Datum.order, Datum.isNaN]
  | nan s t => simp [Datum.order, Datum.isNaN]
def sameB (a b : Nat) : Bool := (nanB a && nanB b) || a == b
theorem FR_same {o : Option Nat} {a b : Nat} (ha : FR o a) (hb : FR o b) : sameB a b = true := by
  cases o with
  | some x => rw [ha.1 x rfl, hb.1 x rfl]; simp [sameB]
  | none => simp [sameB, ha.2.1 rfl, hb.2.1 rfl]
theorem same_refl (a : Nat) : sameB a a = true := by simp [sameB]
/-- The sign's bit turned. -/
def ng (b : Nat) : Nat := if b < 9223372036854775808 then b + 9223372036854775808 else b - 9223372036854775808
theorem xor_low (b : Nat) (h : b < 9223372036854775808) : b ^^^ 9223372036854775808 = 9223372036854775808 + b := by
  have e : (9223372036854775808 : Nat) = 2 ^ 63 := by decide
  rw [e] at h ⊢
  apply Nat.eq_of_testBit_eq
  intro i
  rw [Nat.testBit_xor, Nat.testBit_two_pow]
  rcases Nat.lt_trichotomy i 63 with hi | rfl | hi
  · rw [Nat.testBit_two_pow_add_gt hi]
    simp [show ¬ 63 = i by omega]
  · rw [Nat.testBit_two_pow_add_eq]
    simp
  · have h1 : b < 2 ^ i := Nat.lt_trans h (Nat.pow_lt_pow_right (by omega) hi)
    have h2 : 2 ^ 63 + b < 2 ^ i := by
      have : 2 ^ 64 ≤ 2 ^ i := Nat.pow_le_pow_right (by omega) (by omega)
      have e2 : (2 : Nat) ^ 64 = 2 ^ 63 + 2 ^ 63 := by decide
      omega
    rw [Nat.testBit_lt_two_pow h1, Nat.testBit_lt_two_pow h2]
    simp [show ¬ 63 = i by omega]
theorem xor_high (b : Nat) (h : b < 18446744073709551616) : b ^^^ 9223372036854775808 = ng b := by
  unfold ng
  split
  · rename_i h1; rw [xor_low b h1, Nat.add_comm]
  · obtain ⟨c, rfl⟩ : ∃ c, b = 9223372036854775808 + c := ⟨b - 9223372036854775808, by omega⟩
    rw [← xor_low c (by omega), Nat.xor_assoc, Nat.xor_self, Nat.xor_zero, xor_low c (by omega)]
    omega
theorem neg_ng (b : Nat) (h : b < 18446744073709551616) : Op.negFloat .f64 b = ng b := xor_high b h
theorem ng_lt (b : Nat) (h : b < 18446744073709551616) : ng b < 18446744073709551616 := by unfold ng; split <;> omega
theorem ng_ng (b : Nat) (h : b < 18446744073709551616) : ng (ng b) = b := by unfold ng; split <;> split <;> omega
end Go.Proofs.YtjanpaallealgaaDoor.flt
