/-
  Proved: plain facts on reading a layer's stream: its least fault hangs on nothing behind it. Conditions: as each theorem says. No program is in sight.
-/
import Derived.Test.YtifhnpkapgaboaaArchP
namespace Go.Proofs.Ytifhnpkapgaboaa.arch
open Go Go.RowKit
open path (cleanB)
set_option linter.unusedVariables false

abbrev Flt := Nat × Int
/-- A number of two bytes. -/
def num2 (s : Nm) (a : Nat) : Nat := (s.getD a 0).toNat + 256 * (s.getD (a + 1) 0).toNat
def sub (s : Nm) (a n : Nat) : Nm := (s.drop a).take n
/-- An entry behind its kind, at a place. -/
def entD (s : Nm) (k : Int) (a : Nat) (es : List Ent) : Except Flt (Ent × Nat) :=
  if s.length < a + 1 then .error (s.length, 1300)
  else if (s.getD a 0).toNat = 0 ∨ 140 < (s.getD a 0).toNat then .error (a, 1303)
  else if s.length < a + 1 + (s.getD a 0).toNat then .error (s.length, 1300)
  else if pathE es ⟨sub s (a + 1) (s.getD a 0).toNat, k, 0, []⟩ ≠ 0 then .error (a, pathE es ⟨sub s (a + 1) (s.getD a 0).toNat, k, 0, []⟩)
  else if s.length < a + 1 + (s.getD a 0).toNat + 2 then .error (s.length, 1300)
  else if modeB k (num2 s (a + 1 + (s.getD a 0).toNat)) = false then .error (a + 1 + (s.getD a 0).toNat, 1306)
  else if s.length < a + 1 + (s.getD a 0).toNat + 4 then .error (s.length, 1300)
  else if lenB k (num2 s (a + 1 + (s.getD a 0).toNat + 2)) = false then .error (a + 1 + (s.getD a 0).toNat + 2, 1307)
  else if s.length < a + 1 + (s.getD a 0).toNat + 4 + num2 s (a + 1 + (s.getD a 0).toNat + 2) then .error (s.length, 1300)
  else if k = 3 ∧ (0 : UInt8) ∈ sub s (a + 1 + (s.getD a 0).toNat + 4) (num2 s (a + 1 + (s.getD a 0).toNat + 2)) then .error (a + 1 + (s.getD a 0).toNat + 4, 1308)
  else .ok (⟨sub s (a + 1) (s.getD a 0).toNat, k, num2 s (a + 1 + (s.getD a 0).toNat), sub s (a + 1 + (s.getD a 0).toNat + 4) (num2 s (a + 1 + (s.getD a 0).toNat + 2))⟩, a + 1 + (s.getD a 0).toNat + 4 + num2 s (a + 1 + (s.getD a 0).toNat + 2))
/-- A layer, behind its mark, from a place on. -/
def layD (s : Nm) : Nat → Nat → List Ent → Except Flt (List Ent × Nat)
  | 0, _, _ => .error (0, 0)
  | f + 1, a, es =>
    if s.length < a + 1 then .error (s.length, 1300)
    else if (s.getD a 0).toNat = 0 then .ok (es, a + 1)
    else if 5 < (s.getD a 0).toNat then .error (a, 1302)
    else if 256 ≤ es.length then .error (a, 1309)
    else match entD s (s.getD a 0).toNat (a + 1) es with
      | .error p => .error p
      | .ok (e, b) => layD s f b (es ++ [e])
def mkL : Nm := [79, 82, 76]
def decD (s : Nm) : Except Flt (List Ent) :=
  if 65536 < s.length then .error (0, 1311)
  else if s.take 3 ≠ mkL then .error (0, 1301)
  else match layD s (s.length + 1) 3 [] with
    | .error p => .error p
    | .ok (es, a) => if a < s.length then .error (a, 1310) else .ok es
theorem get_more (s t : Nm) (a : Nat) (h : a < s.length) : (s ++ t).getD a 0 = s.getD a 0 := by
  rw [List.getD_eq_getElem?_getD, List.getD_eq_getElem?_getD, List.getElem?_append_left h]
theorem sub_more (s t : Nm) (a n : Nat) (h : a + n ≤ s.length) : sub (s ++ t) a n = sub s a n := by
  unfold sub
  rw [List.drop_append_of_le_length (by omega), List.take_append_of_le_length (by rw [List.length_drop]; omega)]
theorem num_more (s t : Nm) (a : Nat) (h : a + 2 ≤ s.length) : num2 (s ++ t) a = num2 s a := by
  unfold num2
  rw [get_more s t a (by omega), get_more s t (a + 1) (by omega)]
theorem ent_more (s t : Nm) (k : Int) (a : Nat) (es : List Ent) : (∀ p, entD s k a es = .error p → p.2 ≠ 1300 → entD (s ++ t) k a es = .error p) ∧ (∀ r, entD s k a es = .ok r → entD (s ++ t) k a es = .ok r) := by
  have hl : (s ++ t).length = s.length + t.length := List.length_append
  by_cases h1 : s.length < a + 1
  · have : entD s k a es = .error (s.length, 1300) := by unfold entD; rw [if_pos h1]
    rw [this]
    exact ⟨fun p hp hn => absurd rfl (by cases hp; exact hn), fun r hr => by cases hr⟩
  have g1 := get_more s t a (by omega)
  unfold entD
  rw [g1]
  generalize (s.getD a 0).toNat = n
  rw [if_neg h1, if_neg (show ¬ (s ++ t).length < a + 1 by omega)]
  by_cases h2 : n = 0 ∨ 140 < n
  · rw [if_pos h2, if_pos h2]; exact ⟨fun p hp _ => hp, fun r hr => hr⟩
  rw [if_neg h2, if_neg h2]
  by_cases h3 : s.length < a + 1 + n
  · rw [if_pos h3]
    exact ⟨fun p hp hn => absurd rfl (by cases hp; exact hn), fun r hr => by cases hr⟩
  rw [if_neg h3, if_neg (show ¬ (s ++ t).length < a + 1 + n by omega), sub_more s t (a + 1) n (by omega)]
  generalize hp : pathE es ⟨sub s (a + 1) n, k, 0, []⟩ = c
  by_cases h4 : c ≠ 0
  · rw [if_pos h4, if_pos h4]; exact ⟨fun p hp _ => hp, fun r hr => hr⟩
  rw [if_neg h4, if_neg h4]
  by_cases h5 : s.length < a + 1 + n + 2
  · rw [if_pos h5]
    exact ⟨fun p hp hn => absurd rfl (by cases hp; exact hn), fun r hr => by cases hr⟩
  rw [if_neg h5, if_neg (show ¬ (s ++ t).length < a + 1 + n + 2 by omega), num_more s t (a + 1 + n) (by omega)]
  generalize num2 s (a + 1 + n) = m
  by_cases h6 : modeB k m = false
  · rw [if_pos h6, if_pos h6]; exact ⟨fun p hp _ => hp, fun r hr => hr⟩
  rw [if_neg h6, if_neg h6]
  by_cases h7 : s.length < a + 1 + n + 4
  · rw [if_pos h7]
    exact ⟨fun p hp hn => absurd rfl (by cases hp; exact hn), fun r hr => by cases hr⟩
  rw [if_neg h7, if_neg (show ¬ (s ++ t).length < a + 1 + n + 4 by omega), num_more s t (a + 1 + n + 2) (by omega)]
  generalize num2 s (a + 1 + n + 2) = q
  by_cases h8 : lenB k q = false
  · rw [if_pos h8, if_pos h8]; exact ⟨fun p hp _ => hp, fun r hr => hr⟩
  rw [if_neg h8, if_neg h8]
  by_cases h9 : s.length < a + 1 + n + 4 + q
  · rw [if_pos h9]
    exact ⟨fun p hp hn => absurd rfl (by cases hp; exact hn), fun r hr => by cases hr⟩
  rw [if_neg h9, if_neg (show ¬ (s ++ t).length < a + 1 + n + 4 + q by omega), sub_more s t (a + 1 + n + 4) q (by omega)]
  exact ⟨fun p hp _ => hp, fun r hr => hr⟩
theorem lay_more (s t : Nm) (f : Nat) : ∀ (f2 a : Nat) (es : List Ent) (p : Flt), f ≤ f2 → layD s f a es = .error p → p.2 ≠ 1300 → p.2 ≠ 0 → layD (s ++ t) f2 a es = .error p := by
  have hl : (s ++ t).length = s.length + t.length := List.length_append
  induction f with
  | zero => intro f2 a es p _ h _ h0; rw [layD] at h; cases h; exact absurd rfl h0
  | succ f ih =>
    intro f2 a es p hf h hn h0
    obtain ⟨f3, rfl⟩ : ∃ f3, f2 = f3 + 1 := ⟨f2 - 1, by omega⟩
    rw [layD] at h ⊢
    by_cases h1 : s.length < a + 1
    · rw [if_pos h1] at h; cases h; exact absurd rfl hn
    rw [if_neg h1] at h
    rw [if_neg (show ¬ (s ++ t).length < a + 1 by omega), get_more s t a (by omega)]
    by_cases h2 : (s.getD a 0).toNat = 0
    · rw [if_pos h2] at h; cases h
    rw [if_neg h2] at h ⊢
    by_cases h3 : 5 < (s.getD a 0).toNat
    · rw [if_pos h3] at h ⊢; exact h
    rw [if_neg h3] at h ⊢
    by_cases h4 : 256 ≤ es.length
    · rw [if_pos h4] at h ⊢; exact h
    rw [if_neg h4] at h ⊢
    obtain ⟨m1, m2⟩ := ent_more s t (s.getD a 0).toNat (a + 1) es
    cases he : entD s (s.getD a 0).toNat (a + 1) es with
    | error q =>
      rw [he] at h
      cases h
      rw [m1 _ he hn]
    | ok r =>
      obtain ⟨e, b⟩ := r
      rw [he] at h
      rw [m2 _ he]
      exact ih f3 b _ p (by omega) h hn h0
theorem dec_more (s t : Nm) (p : Flt) (h : decD s = .error p) (h0 : p.2 ≠ 0) (h1 : p.2 ≠ 1300) (h2 : p.2 ≠ 1310) (hl : (s ++ t).length ≤ 65536) (ha : p.1 + 143 ≤ s.length) : decD (s ++ t) = .error p := by
  have hlen : (s ++ t).length = s.length + t.length := List.length_append
  unfold decD at h ⊢
  rw [if_neg (by omega)] at h ⊢
  have ht : (s ++ t).take 3 = s.take 3 := by rw [List.take_append_of_le_length (by omega)]
  rw [ht]
  by_cases h3 : s.take 3 ≠ mkL
  · rw [if_pos h3] at h ⊢; exact h
  rw [if_neg h3] at h ⊢
  cases hd : layD s (s.length + 1) 3 [] with
  | error q =>
    rw [hd] at h
    cases h
    rw [lay_more s t _ ((s ++ t).length + 1) 3 [] _ (by omega) hd h1 h0]
  | ok r =>
    obtain ⟨es, a⟩ := r
    rw [hd] at h
    simp only at h
    split at h
    · cases h; exact absurd rfl h2
    · cases h
/-- The fault of decD: where its numbers lie. -/
theorem pathE_ne (es : List Ent) (e : Ent) : pathE es e = 0 ∨ pathE es e = 1303 ∨ pathE es e = 1304 ∨ pathE es e = 1305 := by
  unfold pathE
  split
  · exact .inr (.inl rfl)
  · split
    · exact .inr (.inr (.inl rfl))
    · split
      · exact .inr (.inr (.inr rfl))
      · exact .inl rfl
end Go.Proofs.Ytifhnpkapgaboaa.arch
