/-
  Proved: what math.Mod returns. Conditions: as each theorem says.
-/
import Derived.Test.YtjanpaallealgaaDoorFlt6
namespace Go.Proofs.YtjanpaallealgaaDoor.flt
open Go.RowKit Ieee
set_option linter.unusedVariables false
set_option maxRecDepth 100000
attribute [local go_sem] run_bits run_frombits

def NANB : Nat := 9221120237041090561
/-- What Mod gives. -/
def md (a b : Nat) : Nat := if eqB b 0 || infB a || nanB a || nanB b then NANB else if infB b then a else wd (sgn a) (modR (rung a) (rung b))
def bitsOf : Value → Nat
  | .float _ b => b
  | _ => 0
theorem inf_cases (a : Nat) (h : a < 18446744073709551616) (h1 : infB a = false) (h2 : nanB a = false) : fin a := by
  rcases fin_cases a h with hf | ⟨h3, h4⟩ | ⟨h3, h4⟩
  · exact hf
  · exfalso
    unfold infB at h1
    rw [h3] at h1
    revert h1
    decide +kernel
  · rw [h4] at h2; cases h2
theorem inf_rung (a : Nat) (h : a < 18446744073709551616) (h1 : infB a = true) (h2 : nanB a = false) : rung a = 9218868437227405312 := by
  rcases fin_cases a h with hf | ⟨h3, h4⟩ | ⟨h3, h4⟩
  · rw [infB_fin a hf] at h1; cases h1
  · exact h3
  · rw [h4] at h2; cases h2
theorem eqz (a : Nat) (h : fin a) (he : eqB a 0 = false) : 0 < rung a := by
  rcases Nat.eq_zero_or_pos (rung a) with h0 | h0
  · exfalso
    have h1 : fin 0 := (pfin 0 (by unfold INF; omega)).1
    rw [eqB_fin a 0 h h1] at he
    have h2 : val a = 0 := by unfold val; rw [h0, mg_zero]; split <;> rfl
    have h3 : val 0 = 0 := by unfold val rung; rw [Nat.zero_mod, mg_zero]; split <;> rfl
    rw [h2, h3] at he
    simp at he
  · exact h0
theorem ltz (a : Nat) (h : fin a) : (double.order a 0 == some .lt) = (sgn a && decide (0 < rung a)) := by
  have h1 : fin 0 := (pfin 0 (by unfold INF; omega)).1
  have h3 : val 0 = 0 := by unfold val rung; rw [Nat.zero_mod, mg_zero]; split <;> rfl
  rw [order_fin a 0 h h1, h3]
  have h4 : (compare (val a) 0 = .lt) ↔ val a < 0 := by
    simp only [compare, compareOfLessAndEq]
    split
    · simp; assumption
    · split <;> simp <;> omega
  rw [Bool.eq_iff_iff]
  simp only [beq_iff_eq, Option.some.injEq, Bool.and_eq_true, decide_eq_true_iff]
  rw [h4]
  unfold val
  cases hs : sgn a
  · simp
  · simp only [if_true, true_and]
    have := mg_lt_iff 0 (rung a)
    rw [mg_zero] at this
    omega
theorem ge_inf (r : Nat) (h : fin r) : geB r 9218868437227405312 = false := by
  have h1 : double.read 9218868437227405312 = .infinity false := by decide +kernel
  unfold geB Format.order
  rw [read_fin r h, h1]
  rfl
theorem ng_wd (a : Nat) (h : a < 18446744073709551616) : ng a = wd (!sgn a) (rung a) := by
  unfold ng wd sgn rung
  by_cases h1 : a < 9223372036854775808
  · rw [if_pos h1, decide_eq_false (by omega)]; simp; omega
  · rw [if_neg h1, decide_eq_true (by omega)]; simp; omega
theorem frE_bd (r : Nat) (h0 : 0 < r) (h : r < INF) : -1073 ≤ frE r ∧ frE r ≤ 1024 := by
  have := (nf_ok r h0 h).2
  omega
def ModAt (X y r : Nat) : Prop := r < INF ∧ mg r % mg y = mg X % mg y
theorem ModAt.stop {X y r : Nat} (h : ModAt X y r) (hy : y < INF) (h0 : 0 < y) (hX : X < INF) (hr : r < y) : r = modR X y := by
  apply mg_inj
  rw [(modR_ok X y hX hy h0).2, ← h.2, Nat.mod_eq_of_lt (mg_lt hr)]
end Go.Proofs.YtjanpaallealgaaDoor.flt
