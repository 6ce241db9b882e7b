/-
  Proved: what the document's own Mod returns. Conditions: as each theorem says.
-/
import Derived.Test.YtjanpaallealgaaGreatDoorFlt12
namespace Go.Proofs.YtjanpaallealgaaGreatDoor.flt
open Go.RowKit Ieee
set_option linter.unusedVariables false
set_option maxRecDepth 100000

theorem mg_two : mg two = 2 * 2 ^ PP := by
  have h : PP = 51 + pl two := by rw [hPP, two_ok.2.2]
  rw [← mg_def, two_ok.2.1, h]
  generalize pl two = k
  rw [Nat.pow_add, show (2 : Nat) ^ 51 = 2251799813685248 by decide, ← Nat.mul_assoc]
theorem eqB_pos (a b : Nat) (ha : a < INF) (hb : b < INF) : eqB a b = decide (a = b) := by
  rw [eqB_fin a b (pfin a ha).1 (pfin b hb).1, pval a ha, pval b hb]
  have : ((mg a : Int) = (mg b : Int)) ↔ a = b := ⟨fun h => mg_inj (Int.ofNat.inj h), fun h => by rw [h]⟩
  exact decide_eq_decide.2 this
theorem dbl_step (x t q : Nat) (hx : x < INF) (ht : t < INF) (h0 : 0 < t) (hq : 2 * mg q = mg x ∨ 2 * mg q = mg x + 1 ∨ 2 * mg q + 1 = mg x) (h : t ≤ q) :
    ∃ t', t' < INF ∧ fop .mul t two = some t' ∧ mg t' = 2 * mg t ∧ t < t' := by
  have h1 := (mg_le_iff t q).2 h
  have htop := mg_top x hx
  have hp := mg_pos t h0
  have hlt : 2 * mg t < 2 ^ TX := by
    rcases Nat.eq_zero_or_pos (pl x) with hpl | hpl
    · have e := mg_def x
      rw [hpl, Nat.pow_zero, Nat.mul_one] at e
      have hs := sg_lt x
      have h2 : 2 ^ 53 < 2 ^ TX := Nat.pow_lt_pow_right (by omega) (by rw [hTX, hPX]; omega)
      have h3 : (2 : Nat) ^ 53 = 9007199254740992 := by decide
      rw [h3] at h2
      omega
    · have e := mg_def x
      obtain ⟨k, hk⟩ : ∃ k, pl x = k + 1 := ⟨pl x - 1, by omega⟩
      rw [hk, Nat.pow_succ, ← Nat.mul_assoc] at e
      omega
  obtain ⟨t', ht', e⟩ := rep_any (sg t) (pl t + 1) (sg_lt t) (by rw [Nat.pow_succ, ← Nat.mul_assoc, mg_def, Nat.mul_comm]; exact hlt)
  rw [Nat.pow_succ, ← Nat.mul_assoc, mg_def, Nat.mul_comm] at e
  refine ⟨t', ht', mul_exact t two t' ht two_ok.1 ht' ?_, e, ?_⟩
  · rw [mg_two, e, ← Nat.mul_assoc, Nat.mul_comm (mg t) 2]
  · rw [← mg_lt_iff, e]; omega
def RM1 (y t : Nat) : Prop := t < INF ∧ 0 < t ∧ ∃ j, mg t = mg y * 2 ^ j
def RM (X y r t : Nat) : Prop := r < INF ∧ t < INF ∧ (∃ j, mg t = mg y * 2 ^ j) ∧ mg r < 2 * mg t ∧ mg r % mg y = mg X % mg y
theorem RM.start {X y t q : Nat} (hX : X < INF) (h : RM1 y t) (hq : 2 * mg q = mg X ∨ 2 * mg q = mg X + 1 ∨ 2 * mg q + 1 = mg X) (hlt : ¬ t ≤ q) : RM X y X t := by
  have := (mg_lt_iff q t).2 (Nat.lt_of_not_le hlt)
  exact ⟨hX, h.1, h.2.2, by omega, rfl⟩
theorem RM.ge {X y r t : Nat} (h : RM X y r t) : y ≤ t := by
  obtain ⟨_, _, ⟨j, e⟩, _⟩ := h
  rw [← mg_le_iff, e]
  exact Nat.le_mul_of_pos_right _ (Nat.two_pow_pos j)
theorem RM.step {X y r t : Nat} (hX : X < INF) (hy : y < INF) (h0 : 0 < y) (h : RM X y r t) :
    ∃ r', ((t ≤ r ∧ fop .sub r t = some r') ∨ (¬ t ≤ r ∧ r' = r)) ∧ r' < INF ∧ ((t = y ∧ r' = modR X y) ∨ (t ≠ y ∧ ∃ t', fop .quo t two = some t' ∧ t' < t ∧ RM X y r' t')) := by
  have hty := h.ge
  obtain ⟨hr, ht, ⟨j, e⟩, hlt, hm⟩ := h
  have hy0 := mg_pos y h0
  have key : ∃ r', ((t ≤ r ∧ fop .sub r t = some r') ∨ (¬ t ≤ r ∧ r' = r)) ∧ r' < INF ∧ mg r' < mg t ∧ mg r' % mg y = mg X % mg y := by
    by_cases hle : t ≤ r
    · obtain ⟨r', hr', er⟩ := near_sub r t hr ht ((mg_le_iff t r).2 hle) (Nat.le_of_lt hlt)
      refine ⟨r', .inl ⟨hle, sub_exact r t r' hr ht hr' er⟩, hr', by omega, ?_⟩
      rw [← hm, er, e, Nat.add_comm, Nat.add_mul_mod_self_left]
    · exact ⟨r, .inr ⟨hle, rfl⟩, hr, (mg_lt_iff r t).2 (Nat.lt_of_not_le hle), hm⟩
  obtain ⟨r', hs, hr', hl', hm'⟩ := key
  refine ⟨r', hs, hr', ?_⟩
  by_cases hty2 : t = y
  · left
    refine ⟨hty2, ?_⟩
    subst hty2
    apply mg_inj
    rw [(modR_ok X t hX hy h0).2, ← hm', Nat.mod_eq_of_lt hl']
  · right
    refine ⟨hty2, ?_⟩
    obtain ⟨k, rfl⟩ : ∃ k, j = k + 1 := by
      cases j with
      | zero => exfalso; apply hty2; apply mg_inj; rw [e, Nat.pow_zero, Nat.mul_one]
      | succ k => exact ⟨k, rfl⟩
    have e2 : mg t = 2 * (mg y * 2 ^ k) := by rw [e, Nat.pow_succ, Nat.mul_comm (2 ^ k) 2, Nat.mul_left_comm]
    have htop := mg_top t ht
    have hk : 0 < mg y * 2 ^ k := Nat.mul_pos hy0 (Nat.two_pow_pos k)
    obtain ⟨t', ht', et⟩ := rep_any (sg y) (pl y + k) (sg_lt y) (by rw [Nat.pow_add, ← Nat.mul_assoc, mg_def]; omega)
    rw [Nat.pow_add, ← Nat.mul_assoc, mg_def] at et
    rw [← et] at e2 hk
    refine ⟨t', half_even t t' ht e2, ?_, hr', ht', ⟨k, et⟩, by omega, hm'⟩
    rw [← mg_lt_iff]; omega
attribute [local go_sem] run_bits run_frombits
end Go.Proofs.YtjanpaallealgaaGreatDoor.flt
