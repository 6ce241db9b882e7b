/-
  Proved: plain laws of decimal fractions of few digits. Conditions: as each theorem says. No program is in sight.
-/
import Derived.Test.YtjanpaallealgaaGreatDoorFltBack
namespace Go.Proofs.YtjanpaallealgaaGreatDoor.flt
open Go Ieee Go.RowKit
open num (decL decF decF_len decF_more)
set_option linter.unusedVariables false

theorem decF_down (f x : Nat) (h : x < 10 ^ (f + 1)) : ∀ g, decF (f + g) x = decF f x
  | 0 => rfl
  | g + 1 => by
    rw [← Nat.add_assoc, decF_more (f + g) x (Nat.lt_of_lt_of_le h (Nat.pow_le_pow_right (by omega) (by omega))), decF_down f x h g]
theorem decL_len (f x : Nat) (hf : f ≤ 19) (h : x < 10 ^ (f + 1)) : (decL x).length ≤ f + 1 := by
  have e : decL x = decF f x := by
    unfold decL
    have := decF_down f x h (19 - f)
    rw [show f + (19 - f) = 19 by omega] at this
    exact this
  rw [e]
  exact (decF_len f x).2
theorem foldl_num : ∀ (l : List UInt8) (x : Nat), l.foldl (fun x c => x * 10 + (c.toNat - 48)) x = x * 10 ^ l.length + numL l
  | [], x => by simp [numL]
  | c :: l, x => by
    unfold numL
    rw [List.foldl_cons, List.foldl_cons, foldl_num l, foldl_num l (0 * 10 + (c.toNat - 48)), List.length_cons, Nat.pow_succ]
    rw [Nat.zero_mul, Nat.zero_add, Nat.add_mul, Nat.mul_assoc, Nat.mul_comm 10 (10 ^ l.length), Nat.add_assoc]
theorem numL_append (a b : List UInt8) : numL (a ++ b) = numL a * 10 ^ b.length + numL b := by
  unfold numL
  rw [List.foldl_append]
  exact foldl_num b _
def padL (j p : Nat) : List UInt8 := List.replicate j 48 ++ decL p
theorem pad_num (j p : Nat) (hp : p < 18446744073709551616) : numL (padL j p) = p ∧ (padL j p).all isD = true ∧ (padL j p).length = j + (decL p).length := by
  obtain ⟨h1, h2, h3⟩ := decL_all p hp
  refine ⟨?_, ?_, by simp [padL]⟩
  · unfold padL
    rw [numL_append, h2]
    have : numL (List.replicate j 48) = 0 := by
      induction j with
      | zero => rfl
      | succ j ih =>
        rw [List.replicate_succ, show (48 : UInt8) :: List.replicate j 48 = [48] ++ List.replicate j 48 from rfl, numL_append, ih]
        simp [numL]
    rw [this, Nat.zero_mul, Nat.zero_add]
  · unfold padL
    rw [List.all_append, h1, Bool.and_true]
    simp [List.all_replicate]
    exact Or.inr (by decide)
def fracL (neg : Bool) (w j p : Nat) : List UInt8 := (if neg then [45] else []) ++ (decL w ++ 46 :: padL j p)
theorem digB_of {l : List UInt8} (h : l.all isD = true) (h1 : 1 ≤ l.length) : digB l = true := by
  unfold digB
  rw [h]
  cases l with
  | nil => simp at h1
  | cons _ _ => rfl
theorem frac_ok (neg : Bool) (w j p : Nat) (hw : w < 100000) (hp : p < 1000000) (hj : j + (decL p).length = 6) :
    ∃ r, fop .quo (fl (w * 1000000 + p)) (fl 1000000) = some r ∧ r < 18446744073709551616 ∧ ofT (fracL neg w j p) = some (if neg then ng r else r) := by
  obtain ⟨r, hr, hr64⟩ := quo_some (fl (w * 1000000 + p)) (fl 1000000) (fin_fl _ (by omega)) (fl_pos 1000000 (by omega) (by omega)).1 (fl_pos 1000000 (by omega) (by omega)).2
  refine ⟨r, hr, hr64, ?_⟩
  obtain ⟨a1, a2, a3⟩ := decL_all w (by omega)
  obtain ⟨b1, b2, b3⟩ := pad_num j p (by omega)
  have al := decL_len 4 w (by omega) (by omega)
  have hc : cutL 46 (decL w ++ 46 :: padL j p) = (decL w, padL j p, true) := cutL_some (all_not a1 46 (by decide))
  have hok : decOkL (decL w ++ 46 :: padL j p) = true := by
    unfold decOkL
    rw [hc]
    unfold decOk
    rw [digB_of a1 a3, digB_of b2 (by omega)]
    simp; omega
  have hv : decVL (decL w ++ 46 :: padL j p) = r := by
    unfold decVL decV
    rw [show decOk (cutL 46 (decL w ++ 46 :: padL j p)).1 (cutL 46 (decL w ++ 46 :: padL j p)).2.1 (cutL 46 (decL w ++ 46 :: padL j p)).2.2 = true from hok, if_pos rfl, hc]
    unfold decQ
    simp only
    rw [numL_append, a2, b1, b3, hj]
    show (fop .quo (fl (w * 1000000 + p)) (fl 1000000)).getD 0 = r
    rw [hr]; rfl
  have hbv : bodyV (decL w ++ 46 :: padL j p) = some (r, true) := by unfold bodyV; rw [hok, if_pos rfl, hv]
  have hpre : Lib.hasPrefix (decL w ++ 46 :: padL j p) [45] = false := by
    cases hd : decL w with
    | nil => rw [hd] at a3; simp at a3
    | cons c l =>
      have : c ≠ 45 := by
        intro h; subst h
        rw [hd, List.all_cons] at a1
        revert a1
        simp [show isD 45 = false by decide]
      unfold Lib.hasPrefix
      simp [List.isPrefixOf]
      exact fun h => this h.symm
  have hp112 : (112 : UInt8) ∉ decL w ++ 46 :: padL j p := by
    rw [List.mem_append, List.mem_cons]
    intro h
    rcases h with h | h | h
    · exact all_not a1 112 (by decide) h
    · revert h; decide
    · exact all_not b2 112 (by decide) h
  cases neg
  · have hb : bodyL (fracL false w j p) = decL w ++ 46 :: padL j p := by
      unfold bodyL fracL Lib.trimPrefix
      simp only [Bool.false_eq_true, if_false, List.nil_append]
      rw [hpre]; rfl
    unfold ofT
    rw [hb, hbv]
    have hcn : (fracL false w j p).contains 112 = false := by
      have : ¬ (fracL false w j p).contains 112 = true := by rw [List.contains_iff_mem]; exact hp112
      simpa using this
    simp only [hcn, Bool.not_true, Bool.false_or, Bool.false_and, Bool.false_eq_true, if_false]
    unfold signV
    rw [hb]
    have : fracL false w j p = decL w ++ 46 :: padL j p := rfl
    rw [this, if_neg (by omega)]
  · have hb : bodyL (fracL true w j p) = decL w ++ 46 :: padL j p := by
      unfold bodyL fracL Lib.trimPrefix
      simp [Lib.hasPrefix, List.isPrefixOf]
    unfold ofT
    rw [hb, hbv]
    have hcn : (fracL true w j p).contains 112 = false := by
      have : ¬ (fracL true w j p).contains 112 = true := by
        rw [List.contains_iff_mem]
        unfold fracL
        simp only [if_true, List.singleton_append, List.mem_cons, not_or]
        exact ⟨by decide, hp112⟩
      simpa using this
    simp only [hcn, Bool.not_true, Bool.false_or, Bool.false_and, Bool.false_eq_true, if_false, if_true]
    unfold signV
    rw [hb]
    have : fracL true w j p = 45 :: (decL w ++ 46 :: padL j p) := rfl
    rw [this, if_pos (by simp)]
theorem million : (4696837146684686336 : Nat) = fl 1000000 := by decide +kernel
end Go.Proofs.YtjanpaallealgaaGreatDoor.flt
