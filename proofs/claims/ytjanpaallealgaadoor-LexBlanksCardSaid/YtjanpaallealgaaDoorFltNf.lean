/-
  Proved: plain laws of scaling floats by powers of two. Conditions: as each theorem says. No program is in sight.
-/
import Derived.Test.YtjanpaallealgaaDoorFltVal3
namespace Go.Proofs.YtjanpaallealgaaDoor.flt
open Go Ieee Go.RowKit

def nrm (a : Nat) : Nat := if a < 4503599627370496 then nr (a * 2 ^ 52) else a
def nc (a : Nat) : Nat := if a < 4503599627370496 then 52 else 0
theorem nrm_ok (a : Nat) (h0 : 0 < a) (h : a < INF) : 4503599627370496 ≤ nrm a ∧ nrm a < INF ∧ mg (nrm a) = mg a * 2 ^ nc a := by
  unfold nrm nc
  by_cases h1 : a < 4503599627370496
  · rw [if_pos h1, if_pos h1, mg_small a (by omega)]
    have hr := nr_rep a 52 (by omega) (by omega)
    refine ⟨?_, hr.1, hr.2⟩
    have h2 : mg 4503599627370495 < mg (nr (a * 2 ^ 52)) := by
      rw [hr.2, mg_small _ (by omega), pow52]; omega
    have := (mg_lt_iff _ _).1 h2
    omega
  · rw [if_neg h1, if_neg h1, Nat.pow_zero, Nat.mul_one]
    exact ⟨by omega, h, rfl⟩
theorem sg_norm (a : Nat) (h : 4503599627370496 ≤ a) : sg a = 4503599627370496 + a % 4503599627370496 := by unfold sg; rw [if_neg (by omega)]
/-- What a float with these two fields is. -/
theorem mg_field (F E : Nat) (hF : F < 4503599627370496) (hE : 1 ≤ E) : mg (F + E * 4503599627370496) = (4503599627370496 + F) * 2 ^ (E - 1) := by
  unfold mg sg pl
  rw [if_neg (by omega), show (F + E * 4503599627370496) % 4503599627370496 = F by omega, show (F + E * 4503599627370496) / 4503599627370496 - 1 = E - 1 by omega]
def xE (a : Nat) (k : Int) : Int := k - (nc a : Int) + (nrm a / 4503599627370496 : Nat) - 1023
abbrev c53 : Nat := 4368491638549381120
abbrev one : Nat := 4607182418800017408
theorem c53_ok : c53 < INF ∧ sg c53 = 4503599627370496 ∧ pl c53 = 969 := by decide
theorem one_ok : one < INF ∧ sg one = 4503599627370496 ∧ pl one = 1022 := by decide
theorem mg_one : mg one = 2 ^ PP := by
  have e : 52 + pl one = PP := by rw [one_ok.2.2, hPP]
  rw [← mg_def, one_ok.2.1, ← pow52, ← Nat.pow_add, e]
theorem mg_c53 : mg c53 * 2 ^ 53 = 2 ^ PP := by
  have e : 52 + pl c53 + 53 = PP := by rw [c53_ok.2.2, hPP]
  rw [← mg_def, c53_ok.2.1, ← pow52, ← Nat.pow_add, ← Nat.pow_add, e]
def ldx (a : Nat) (k : Int) : Nat :=
  if xE a k < -1075 then 0 else if 1023 < xE a k then INF
  else if xE a k < -1022 then (fop .mul c53 (nrm a % 4503599627370496 + (xE a k + 1076).toNat * 4503599627370496)).getD 0
  else nrm a % 4503599627370496 + (xE a k + 1023).toNat * 4503599627370496
theorem one_mul (x : Nat) (h : x < INF) : fop .mul one x = some x := by
  refine mul_exact one x x one_ok.1 h h ?_
  rw [mg_one, Nat.mul_comm]
theorem near_le (m : Nat) (p : Int) : double.nearest false m p ≤ INF := by
  unfold Format.nearest
  split
  · exact Nat.zero_le _
  · simp only [e2, e3, e4, e5, Format.word, Bool.false_eq_true, if_false]
    exact Nat.min_le_right _ _
theorem mul_some (a b : Nat) (ha : a < INF) (hb : b < INF) : ∃ r, fop .mul a b = some r ∧ r ≤ INF := by
  refine ⟨double.nearest false (sg a * sg b) (-1074 + (pl a : Int) + (-1074 + (pl b : Int))), ?_, near_le _ _⟩
  show ((double.read a).product (double.read b)).map double.write = _
  rw [pread a ha, pread b hb]
  rfl
theorem ldx_le (a : Nat) (k : Int) (h0 : 0 < a) (h : a < INF) : ldx a k ≤ INF := by
  have hn := nrm_ok a h0 h
  unfold ldx
  split
  · unfold INF; omega
  · split
    · exact Nat.le_refl _
    · split
      · obtain ⟨r, h1, h2⟩ := mul_some c53 (nrm a % 4503599627370496 + (xE a k + 1076).toNat * 4503599627370496) c53_ok.1 (by unfold INF; omega)
        rw [h1]; exact h2
      · unfold INF; omega
/-- a by 2 to the power k is r. -/
def Scaled (a : Nat) (k : Int) (r : Nat) : Prop := mg a * 2 ^ k.toNat = mg r * 2 ^ (-k).toNat
theorem pow_cancel {x y i j : Nat} (hij : i ≤ j) (h : x * 2 ^ j = y * 2 ^ i) : x * 2 ^ (j - i) = y := by
  have hp := Nat.two_pow_pos i
  have : x * 2 ^ (j - i) * 2 ^ i = y * 2 ^ i := by rw [Nat.mul_assoc, ← Nat.pow_add, Nat.sub_add_cancel hij, h]
  exact Nat.eq_of_mul_eq_mul_right hp this
theorem ldx_ok (a : Nat) (k : Int) (r : Nat) (h0 : 0 < a) (h : a < INF) (hr : r < INF) (hs : Scaled a k r) : ldx a k = r := by
  obtain ⟨hn1, hn2, hn3⟩ := nrm_ok a h0 h
  have hS := sg_norm (nrm a) hn1
  have hmd := mg_def (nrm a)
  have hS2 := sg_lt (nrm a)
  have hE1 : pl (nrm a) + 1 = nrm a / 4503599627370496 := by unfold pl; omega
  unfold Scaled at hs
  unfold ldx
  have hx : xE a k = k - (nc a : Int) + (pl (nrm a) : Int) - 1022 := by unfold xE; rw [← hE1]; omega
  rw [hx]
  rw [← hmd] at hn3
  have hF : nrm a % 4503599627370496 < 4503599627370496 := Nat.mod_lt _ (by omega)
  have htop := mg_top r hr
  clear hmd hx hE1 hn1 hn2
  generalize nrm a % 4503599627370496 = F at *
  generalize pl (nrm a) = Q at *
  generalize nc a = c at *
  rw [hS] at hn3 hS2
  clear hS
  -- the one equation: (2^52 + F) * 2^(Q + k+) = mg r * 2^(k- + c)
  have key : (4503599627370496 + F) * 2 ^ (Q + k.toNat) = mg r * 2 ^ ((-k).toNat + c) := by
    rw [Nat.pow_add, ← Nat.mul_assoc, hn3, Nat.pow_add, ← Nat.mul_assoc, ← hs]
    generalize 2 ^ c = u; generalize 2 ^ k.toNat = v
    ac_rfl
  clear hn3 hs
  by_cases hc : -1022 ≤ k - (c : Int) + (Q : Int) - 1022
  · rw [if_neg (by omega)]
    have k1 := pow_cancel (by omega : (-k).toNat + c ≤ Q + k.toNat) key
    obtain ⟨j, hj⟩ : ∃ j, Q + k.toNat - ((-k).toNat + c) = j := ⟨_, rfl⟩
    rw [hj] at k1
    have hjj : k - (c : Int) + (Q : Int) - 1022 = (j : Int) - 1022 := by omega
    rw [hjj]
    by_cases hb : 1023 < (j : Int) - 1022
    · exfalso
      have e3 : 2 ^ TX ≤ mg r := by
        rw [← k1]
        have e1 : TX = 52 + (PX + 1) := by rw [hTX]; omega
        have e2 : PX + 1 ≤ j := by rw [hPX]; omega
        rw [e1, Nat.pow_add, pow52]
        exact Nat.mul_le_mul (by omega) (Nat.pow_le_pow_right (by omega) e2)
      omega
    · rw [if_neg hb, if_neg (by omega)]
      have e1 : ((j : Int) - 1022 + 1023).toNat = j + 1 := by omega
      rw [e1]
      apply mg_inj
      rw [mg_field F (j + 1) hF (by omega), Nat.add_sub_cancel]
      exact k1
  · have k1 := pow_cancel (by omega : Q + k.toNat ≤ (-k).toNat + c) key.symm
    obtain ⟨j, hj⟩ : ∃ j, (-k).toNat + c - (Q + k.toNat) = j := ⟨_, rfl⟩
    rw [hj] at k1
    have hjj : k - (c : Int) + (Q : Int) - 1022 = -(j : Int) - 1022 := by omega
    rw [hjj]
    have hj1 : 1 ≤ j := by omega
    have hr0 : 0 < mg r := by
      rcases Nat.eq_zero_or_pos (mg r) with h1 | h1
      · rw [h1, Nat.zero_mul] at k1; omega
      · exact h1
    have hj2 : j < 53 := by
      have : 2 ^ j < 2 ^ 53 := Nat.lt_of_le_of_lt (Nat.le_mul_of_pos_left _ hr0) (by rw [k1]; exact hS2)
      exact (Nat.pow_lt_pow_iff_right (by omega)).1 this
    rw [if_neg (by omega), if_neg (by omega), if_pos (by omega)]
    have e1 : (-(j : Int) - 1022 + 1076).toNat = 54 - j := by omega
    rw [e1]
    have hx2 : F + (54 - j) * 4503599627370496 < INF := by unfold INF; omega
    have := mul_exact c53 (F + (54 - j) * 4503599627370496) r c53_ok.1 hx2 hr (by
      rw [mg_field F (54 - j) hF (by omega), ← k1, ← mg_c53]
      have e2 : 2 ^ 53 = 2 ^ j * 2 ^ (54 - j - 1) := by rw [← Nat.pow_add]; congr 1; omega
      rw [e2]
      generalize mg c53 = x; generalize mg r = y; generalize 2 ^ j = u; generalize 2 ^ (54 - j - 1) = v
      ac_rfl)
    rw [this]
    rfl
theorem lt0 (a : Nat) (h : a < INF) : (double.order a 0 == some .lt) = false := by
  rw [order_fin a 0 (pfin a h).1 (pfin 0 (by unfold INF; omega)).1, pval a h, pval 0 (by unfold INF; omega), mg_zero]
  have : ¬ compare (mg a : Int) ((0 : Nat) : Int) = .lt := by
    intro hc
    have := (cmp_ge (mg a : Int) ((0 : Nat) : Int)).2 (by omega)
    rw [hc] at this
    simp at this
  simpa using this
theorem eq0 (a : Nat) (h0 : 0 < a) (h : a < INF) : eqB a 0 = false := by
  rw [eqB_fin a 0 (pfin a h).1 (pfin 0 (by unfold INF; omega)).1, pval a h, pval 0 (by unfold INF; omega)]
  apply decide_eq_false
  have := mg_lt h0
  omega
theorem ltB_pos (a b : Nat) (ha : a < INF) (hb : b < INF) : (double.order a b == some .lt) = decide (a < b) := by
  rw [order_fin a b (pfin a ha).1 (pfin b hb).1, pval a ha, pval b hb, Bool.eq_iff_iff, decide_eq_true_iff, ← mg_lt_iff]
  simp only [beq_iff_eq, Option.some.injEq]
  simp only [compare, compareOfLessAndEq]
  split
  · simp; omega
  · split <;> simp <;> omega
theorem geB_pos (a b : Nat) (ha : a < INF) (hb : b < INF) : geB a b = decide (b ≤ a) := by
  rw [geB_fin a b (pfin a ha).1 (pfin b hb).1, pval a ha, pval b hb, Bool.eq_iff_iff, decide_eq_true_iff, decide_eq_true_iff, ← mg_le_iff]
  omega
end Go.Proofs.YtjanpaallealgaaDoor.flt
