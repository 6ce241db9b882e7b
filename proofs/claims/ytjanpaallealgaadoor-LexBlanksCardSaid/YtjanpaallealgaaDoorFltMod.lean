/-
  Proved: plain laws of the rest of a division of floats. Conditions: as each theorem says. No program is in sight.
-/
import Derived.Test.YtjanpaallealgaaDoorFltNf
namespace Go.Proofs.YtjanpaallealgaaDoor.flt
open Go Ieee Go.RowKit

def modR (x y : Nat) : Nat := nr (mg x % mg y)
theorem mg_pos (y : Nat) (h : 0 < y) : 0 < mg y := by have := mg_lt h; omega
theorem modR_ok (x y : Nat) (hx : x < INF) (hy : y < INF) (h0 : 0 < y) : modR x y < INF ∧ mg (modR x y) = mg x % mg y := by
  have key : ∃ r, r < INF ∧ mg r = mg x % mg y := by
    by_cases h : x < y
    · exact ⟨x, hx, (Nat.mod_eq_of_lt (mg_lt h)).symm⟩
    · have hpl := pl_mono (Nat.le_of_not_lt h)
      have ex : mg x = sg x * 2 ^ (pl x - pl y) * 2 ^ pl y := by
        rw [← mg_def x, Nat.mul_assoc, ← Nat.pow_add]; congr 2; omega
      have hlt : mg x % mg y < mg y := Nat.mod_lt _ (mg_pos y h0)
      have ht := mg_top y hy
      have hs := sg_lt y
      have hs0 : 0 < sg y := by
        rcases Nat.eq_zero_or_pos (sg y) with h1 | h1
        · have := mg_pos y h0; rw [← mg_def, h1, Nat.zero_mul] at this; omega
        · exact h1
      have em : mg x % mg y = (sg x * 2 ^ (pl x - pl y) % sg y) * 2 ^ pl y := by
        rw [ex, ← mg_def y, Nat.mul_mod_mul_right]
      rw [em] at hlt ⊢
      have hm : sg x * 2 ^ (pl x - pl y) % sg y < sg y := Nat.mod_lt _ hs0
      obtain ⟨r, hr, e⟩ := rep_any (sg x * 2 ^ (pl x - pl y) % sg y) (pl y) (by omega) (by omega)
      exact ⟨r, hr, e⟩
  obtain ⟨r, hr, e⟩ := key
  unfold modR
  rw [← e, nr_mg r hr]
  exact ⟨hr, rfl⟩
/-- The fraction and the exponent that Frexp gives. -/
def frF (a : Nat) : Nat := nrm a % 4503599627370496 + 1022 * 4503599627370496
def frE (a : Nat) : Int := (nrm a / 4503599627370496 : Nat) - 1022 - (nc a : Int)
def nS (a : Nat) : Nat := 4503599627370496 + nrm a % 4503599627370496
def nU (a : Nat) : Nat := pl (nrm a) + 52 - nc a
theorem nf_ok (a : Nat) (h0 : 0 < a) (h : a < INF) : mg a * 2 ^ 52 = nS a * 2 ^ nU a ∧ frE a = (nU a : Int) - 1073 ∧ nU a ≤ 2097 := by
  obtain ⟨h1, h2, h3⟩ := nrm_ok a h0 h
  have hc : nc a ≤ 52 := by unfold nc; split <;> omega
  have hp : nrm a / 4503599627370496 = pl (nrm a) + 1 := by unfold pl; omega
  have hl : pl (nrm a) ≤ 2045 := by unfold pl; unfold INF at h2; omega
  refine ⟨?_, ?_, ?_⟩
  · unfold nS nU
    rw [← sg_norm _ h1]
    have e : 2 ^ 52 = 2 ^ nc a * 2 ^ (52 - nc a) := by rw [← Nat.pow_add]; congr 1; omega
    rw [e, ← Nat.mul_assoc, ← h3, ← mg_def, Nat.mul_assoc, ← Nat.pow_add]
    congr 2
    omega
  · unfold frE nU; rw [hp]; omega
  · unfold nU; omega
theorem nS_bd (a : Nat) : 4503599627370496 ≤ nS a ∧ nS a < 9007199254740992 := by unfold nS; omega
theorem frF_lt (r y : Nat) : frF r < frF y ↔ nS r < nS y := by unfold frF nS; omega
theorem frF_inf (r : Nat) : frF r < INF := by unfold frF INF; omega
def stepK (r y : Nat) : Int := (if frF r < frF y then frE r - 1 else frE r) - frE y
theorem up_pow {s t i j : Nat} (hs : s < 9007199254740992) (ht : 4503599627370496 ≤ t) (hij : i + 1 ≤ j) : s * 2 ^ i < t * 2 ^ j := by
  have h1 : s * 2 ^ i < 9007199254740992 * 2 ^ i := Nat.mul_lt_mul_of_pos_right hs (Nat.two_pow_pos _)
  have h2 : 9007199254740992 * 2 ^ i = 4503599627370496 * 2 ^ (i + 1) := by rw [Nat.pow_succ]; omega
  have h3 : 4503599627370496 * 2 ^ (i + 1) ≤ t * 2 ^ j := Nat.mul_le_mul ht (Nat.pow_le_pow_right (by omega) hij)
  omega
theorem step_lo (my mr Sy Sr Uy Ur : Nat) (n1 : mr * 2 ^ 52 = Sr * 2 ^ Ur) (m1 : my * 2 ^ 52 = Sy * 2 ^ Uy) (b1 : 4503599627370496 ≤ Sr) (b2 : Sy < 9007199254740992)
    (hle : my * 2 ^ 52 ≤ mr * 2 ^ 52) (hS : Sr < Sy) : ∃ k, Ur = Uy + k + 1 ∧ my * 2 ^ k ≤ mr ∧ mr ≤ 2 * (my * 2 ^ k) := by
  have h52 : 0 < 2 ^ 52 := by decide
  have hU : Uy + 1 ≤ Ur := by
    rcases Nat.lt_or_ge Uy Ur with h1 | h1
    · exact h1
    · exfalso
      have h2 : Sr * 2 ^ Ur < Sy * 2 ^ Ur := Nat.mul_lt_mul_of_pos_right hS (Nat.two_pow_pos _)
      have h3 : Sy * 2 ^ Ur ≤ Sy * 2 ^ Uy := Nat.mul_le_mul_left _ (Nat.pow_le_pow_right (by omega) h1)
      rw [n1, m1] at hle
      exact Nat.lt_irrefl _ (Nat.lt_of_lt_of_le h2 (Nat.le_trans h3 hle))
  generalize 2 ^ 52 = c at *
  obtain ⟨k, rfl⟩ : ∃ k, Ur = Uy + k + 1 := ⟨Ur - Uy - 1, by omega⟩
  refine ⟨k, rfl, Nat.le_of_mul_le_mul_right (c := c) ?_ h52, Nat.le_of_mul_le_mul_right (c := c) ?_ h52⟩
  · rw [Nat.mul_right_comm, m1, n1, Nat.mul_assoc, ← Nat.pow_add, Nat.pow_succ]
    generalize 2 ^ (Uy + k) = u
    rw [Nat.mul_comm u 2, ← Nat.mul_assoc]
    exact Nat.mul_le_mul_right _ (by omega)
  · rw [Nat.mul_assoc, Nat.mul_right_comm, m1, n1, Nat.mul_assoc, ← Nat.pow_add, Nat.pow_succ]
    generalize 2 ^ (Uy + k) = u
    rw [Nat.mul_comm u 2, Nat.mul_left_comm]
    exact Nat.mul_le_mul_left _ (Nat.mul_le_mul_right _ (by omega))
theorem step_hi (my mr Sy Sr Uy Ur : Nat) (n1 : mr * 2 ^ 52 = Sr * 2 ^ Ur) (m1 : my * 2 ^ 52 = Sy * 2 ^ Uy) (b1 : Sr < 9007199254740992) (b2 : 4503599627370496 ≤ Sy)
    (hle : my * 2 ^ 52 ≤ mr * 2 ^ 52) (hS : Sy ≤ Sr) : ∃ k, Ur = Uy + k ∧ my * 2 ^ k ≤ mr ∧ mr ≤ 2 * (my * 2 ^ k) := by
  have h52 : 0 < 2 ^ 52 := by decide
  have hU : Uy ≤ Ur := by
    rcases Nat.lt_or_ge Ur Uy with h1 | h1
    · exfalso
      have h2 := up_pow b1 b2 h1
      rw [n1, m1] at hle
      exact Nat.lt_irrefl _ (Nat.lt_of_lt_of_le h2 hle)
    · exact h1
  generalize 2 ^ 52 = c at *
  obtain ⟨k, rfl⟩ : ∃ k, Ur = Uy + k := ⟨Ur - Uy, by omega⟩
  refine ⟨k, rfl, Nat.le_of_mul_le_mul_right (c := c) ?_ h52, Nat.le_of_mul_le_mul_right (c := c) ?_ h52⟩
  · rw [Nat.mul_right_comm, m1, n1, Nat.mul_assoc, ← Nat.pow_add]
    exact Nat.mul_le_mul_right _ hS
  · rw [Nat.mul_assoc, Nat.mul_right_comm, m1, n1, Nat.mul_assoc, ← Nat.pow_add, ← Nat.mul_assoc]
    exact Nat.mul_le_mul_right _ (by omega)
theorem stepK_ok (r y : Nat) (hr : r < INF) (h0 : 0 < y) (hy : y ≤ r) : ∃ k : Nat, stepK r y = (k : Int) ∧ k ≤ 5000 ∧ mg y * 2 ^ k ≤ mg r ∧ mg r ≤ 2 * (mg y * 2 ^ k) := by
  have hyI : y < INF := Nat.lt_of_le_of_lt hy hr
  obtain ⟨n1, n2, n3⟩ := nf_ok r (Nat.lt_of_lt_of_le h0 hy) hr
  obtain ⟨m1, m2, m3⟩ := nf_ok y h0 hyI
  have b1 := nS_bd r
  have b2 := nS_bd y
  have hle : mg y * 2 ^ 52 ≤ mg r * 2 ^ 52 := Nat.mul_le_mul_right _ ((mg_le_iff y r).2 hy)
  unfold stepK
  rw [n2, m2]
  by_cases hf : frF r < frF y
  · obtain ⟨k, e, h1, h2⟩ := step_lo _ _ _ _ _ _ n1 m1 b1.1 b2.2 hle ((frF_lt r y).1 hf)
    rw [if_pos hf]
    clear n1 m1 hle
    exact ⟨k, by omega, by omega, h1, h2⟩
  · obtain ⟨k, e, h1, h2⟩ := step_hi _ _ _ _ _ _ n1 m1 b1.2 b2.1 hle (Nat.le_of_not_lt (fun h => hf ((frF_lt r y).2 h)))
    rw [if_neg hf]
    clear n1 m1 hle
    exact ⟨k, by omega, by omega, h1, h2⟩
theorem scaled_up (y t k : Nat) (e : mg t = mg y * 2 ^ k) : Scaled y (k : Int) t := by
  unfold Scaled
  rw [show ((k : Int)).toNat = k from Int.toNat_natCast k, show (-(k : Int)).toNat = 0 by omega, e, Nat.pow_zero, Nat.mul_one]
theorem mod_step (r y : Nat) (hr : r < INF) (h0 : 0 < y) (hy : y ≤ r) : ∃ t r', t < INF ∧ r' < INF ∧ ldx y (stepK r y) = t ∧ mg r = mg t + mg r' ∧ mg r' % mg y = mg r % mg y ∧ r' < r ∧ 0 ≤ stepK r y ∧ stepK r y ≤ 5000 := by
  have hyI : y < INF := Nat.lt_of_le_of_lt hy hr
  obtain ⟨k, hk, hk5, h1, h2⟩ := stepK_ok r y hr h0 hy
  have htop := mg_top r hr
  have hy0 := mg_pos y h0
  obtain ⟨t, ht, et⟩ := rep_any (sg y) (pl y + k) (sg_lt y) (by rw [Nat.pow_add, ← Nat.mul_assoc, mg_def]; exact Nat.lt_of_le_of_lt h1 htop)
  rw [Nat.pow_add, ← Nat.mul_assoc, mg_def] at et
  have hld := ldx_ok y (k : Int) t h0 hyI ht (scaled_up y t k et)
  have h3 : 0 < mg t := by rw [et]; exact Nat.mul_pos hy0 (Nat.two_pow_pos k)
  rw [← et] at h1 h2
  obtain ⟨r', hr', er⟩ := near_sub r t hr ht h1 h2
  clear htop
  refine ⟨t, r', ht, hr', by rw [hk]; exact hld, er, ?_, ?_, by rw [hk]; omega, by rw [hk]; omega⟩
  · rw [er, et, Nat.add_comm, Nat.add_mul_mod_self_left]
  · rw [← mg_lt_iff, er]; omega
end Go.Proofs.YtjanpaallealgaaDoor.flt
