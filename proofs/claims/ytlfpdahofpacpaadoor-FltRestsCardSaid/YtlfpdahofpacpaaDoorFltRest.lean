/-
  Proved: plain laws of the rests of small whole numbers and of their eighths. Conditions: as each theorem says. No program is in sight.
-/
import Derived.Test.YtlfpdahofpacpaaDoorFlt13
import Derived.Test.YtlfpdahofpacpaaDoorFltBack
namespace Go.Proofs.YtlfpdahofpacpaaDoor.flt
open Go Ieee Go.RowKit
set_option linter.unusedVariables false

/-- The float of n by 2 to the k, in the least unit. -/
def G (k : Nat) (n : Int) : Nat := wd (decide (n < 0)) (nr (n.natAbs * 2 ^ k))
theorem G_ok (k : Nat) (n : Int) (hk : k ≤ 2045) (hn : n.natAbs < 9007199254740992) : fin (G k n) ∧ rung (G k n) = nr (n.natAbs * 2 ^ k) ∧ nr (n.natAbs * 2 ^ k) < INF ∧ mg (nr (n.natAbs * 2 ^ k)) = n.natAbs * 2 ^ k ∧ sgn (G k n) = decide (n < 0) := by
  obtain ⟨h1, h2⟩ := nr_rep n.natAbs k hn hk
  exact ⟨fin_wd _ _ h1, rung_wd _ _ (Nat.le_of_lt h1), h1, h2, sgn_wd _ _ (Nat.le_of_lt h1)⟩
theorem signed_nat (n : Int) (c : Nat) : (if decide (n < 0) = true then -((n.natAbs * c : Nat) : Int) else ((n.natAbs * c : Nat) : Int)) = n * (c : Int) := by
  rw [Int.natCast_mul]
  by_cases h : n < 0
  · rw [if_pos (decide_eq_true h), ← Int.neg_mul]
    congr 1; omega
  · rw [if_neg (by rw [decide_eq_false h]; exact Bool.false_ne_true)]
    congr 1; omega
theorem G_val (k : Nat) (n : Int) (hk : k ≤ 2045) (hn : n.natAbs < 9007199254740992) : val (G k n) = n * ((2 ^ k : Nat) : Int) := by
  obtain ⟨h1, h2, h3, h4, h5⟩ := G_ok k n hk hn
  unfold val
  rw [h2, h4, h5, signed_nat]
theorem foi_G (n : Int) (hn : n.natAbs < 9007199254740992) : floatOfInt .f64 n = G PP n := by
  unfold G
  by_cases h : n < 0
  · obtain ⟨m, rfl⟩ : ∃ m : Nat, n = -(m : Int) := ⟨n.natAbs, by omega⟩
    rw [floatOfInt_neg m (by omega), near_int, decide_eq_true h]
    congr 3; omega
  · obtain ⟨m, rfl⟩ := Int.eq_ofNat_of_zero_le (Int.not_lt.1 h)
    rw [floatOfInt_nat, decide_eq_false h]
    unfold fl
    rw [near_int]; rfl
theorem G_zero (k : Nat) (n : Int) (hk : k ≤ 2045) (hn : n.natAbs < 9007199254740992) (h0 : n ≠ 0) : eqB (G k n) 0 = false := by
  have hz : fin 0 := (pfin 0 (by decide)).1
  have hv : val 0 = 0 := by decide
  rw [eqB_fin _ _ (G_ok k n hk hn).1 hz, G_val k n hk hn, hv]
  refine decide_eq_false ?_
  intro h
  rcases Int.mul_eq_zero.1 h with h | h
  · exact h0 h
  · have := Nat.two_pow_pos k; omega
theorem md_G (k : Nat) (x y : Int) (hk : k ≤ 2045) (hx : x.natAbs < 9007199254740992) (hy : y.natAbs < 9007199254740992) (h0 : y ≠ 0) :
    md (G k x) (G k y) = wd (decide (x < 0)) (nr ((x.natAbs % y.natAbs) * 2 ^ k)) := by
  obtain ⟨h1, h2, h3, h4, h5⟩ := G_ok k x hk hx
  obtain ⟨k1, k2, k3, k4, k5⟩ := G_ok k y hk hy
  unfold md
  rw [G_zero k y hk hy h0, infB_fin _ h1, nan_fin _ h1, nan_fin _ k1]
  simp only [Bool.or_false, Bool.false_eq_true, if_false]
  rw [infB_fin _ k1]
  simp only [Bool.false_eq_true, if_false]
  rw [h5, h2, k2]
  unfold modR
  rw [h4, k4, Nat.mul_mod_mul_right]
theorem tmod_abs (x y : Int) : (x.tmod y).natAbs = x.natAbs % y.natAbs := Int.natAbs_tmod x y
theorem md_ok (k : Nat) (x y : Int) (hk : k ≤ 2045) (hx : x.natAbs < 9007199254740992) (hy : y.natAbs < 9007199254740992) (h0 : y ≠ 0) :
    fin (md (G k x) (G k y)) ∧ val (md (G k x) (G k y)) = x.tmod y * ((2 ^ k : Nat) : Int) ∧ sgn (md (G k x) (G k y)) = decide (x < 0) ∧ md (G k x) (G k y) < 18446744073709551616 := by
  rw [md_G k x y hk hx hy h0]
  have hlt : x.natAbs % y.natAbs < 9007199254740992 := Nat.lt_of_lt_of_le (Nat.mod_lt _ (by omega)) (by omega)
  obtain ⟨h1, h2⟩ := nr_rep (x.natAbs % y.natAbs) k hlt hk
  have hf := fin_wd (decide (x < 0)) _ h1
  refine ⟨hf, ?_, sgn_wd _ _ (Nat.le_of_lt h1), hf.1⟩
  rw [val_wd _ _ h1, h2]
  have ht := tmod_abs x y
  rw [Int.natCast_mul]
  by_cases h : x < 0
  · rw [if_pos (decide_eq_true h), ← Int.neg_mul]
    congr 1
    have : x.tmod y ≤ 0 := by
      have := Int.tmod_nonneg (a := -x) y (by omega)
      rw [Int.neg_tmod] at this
      omega
    omega
  · rw [if_neg (by rw [decide_eq_false h]; exact Bool.false_ne_true)]
    congr 1
    have : 0 ≤ x.tmod y := Int.tmod_nonneg y (by omega)
    omega
theorem rest_eq (k : Nat) (x y : Int) (hk : k ≤ 2045) (hx : x.natAbs < 9007199254740992) (hy : y.natAbs < 9007199254740992) (h0 : y ≠ 0) :
    eqB (md (G k x) (G k y)) (G k (x.tmod y)) = true := by
  have hlt : (x.tmod y).natAbs < 9007199254740992 := by
    rw [tmod_abs]; exact Nat.lt_of_lt_of_le (Nat.mod_lt _ (by omega)) (by omega)
  obtain ⟨h1, h2, _, _⟩ := md_ok k x y hk hx hy h0
  rw [eqB_fin _ _ h1 (G_ok k _ hk hlt).1, h2, G_val k _ hk hlt]
  exact decide_eq_true rfl
@[irreducible] def P3 : Nat := 1071
theorem hP3 : PP = P3 + 3 := by rw [hPP]; unfold P3; rfl
abbrev eight : Nat := 4620693217682128896
theorem eight_ok : eight < INF ∧ sg eight = 4503599627370496 ∧ pl eight = 1025 := by decide
theorem eighth (n : Int) (hn : n.natAbs < 9007199254740992) : fop .quo (G PP n) eight = some (G P3 n) := by
  have hp : PP ≤ 2045 := by rw [hPP]; omega
  have h3 : P3 ≤ 2045 := by have := hP3; omega
  obtain ⟨h1, h2, h4, h5, h6⟩ := G_ok PP n hp hn
  obtain ⟨k1, k2, k3, k4, k5⟩ := G_ok P3 n h3 hn
  have := quo_exact (G PP n) eight (nr (n.natAbs * 2 ^ P3)) h1 eight_ok.1 eight_ok.2.1 k3 (by
    rw [h2, h5, k4, Nat.mul_assoc, Nat.mul_assoc, ← Nat.pow_add, ← Nat.pow_add]
    have e : PP + PP = P3 + (52 + pl eight) := by
      have a := hPP; have b := hP3; have c := eight_ok.2.2
      omega
    rw [e])
  rw [this, h6]; rfl
end Go.Proofs.YtlfpdahofpacpaaDoor.flt
