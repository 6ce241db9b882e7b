/-
  Proved: a text written between quotes with its escapes is read as it was (plain). Conditions: as each theorem says. No program is in sight.
-/
import Derived.Test.YtjanpaallealgaaDoorLexPlain
namespace Go.Proofs.YtjanpaallealgaaDoor.lex
open Go Go.RowKit
open flt (isD ofT)
set_option linter.unusedVariables false

/-- How a byte is written between quotes. -/
def esc1 (c : UInt8) : List UInt8 := if c = 34 ∨ c = 92 then [92, c] else if c = 10 then [92, 110] else if c = 9 then [92, 116] else [c]
def escL (l : List UInt8) : List UInt8 := l.flatMap esc1
/-- May it stand there? -/
def okB (c : UInt8) : Bool := decide (c = 34 ∨ c = 92) || c == 10 || c == 9 || decide (32 ≤ c.toNat)
theorem esc1_ok {c : UInt8} (h : okB c = true) (r : List UInt8) : qtS false (esc1 c ++ r) = (qtS false r).map fun x => (c :: x.1, x.2 + (esc1 c).length) := by
  unfold esc1
  by_cases h1 : c = 34 ∨ c = 92
  · rw [if_pos h1]
    rcases h1 with rfl | rfl
    · rw [List.cons_append, List.cons_append, List.nil_append, qtS, if_neg (by decide), if_neg (by decide), if_pos rfl, qtS]
      simp [escB]; cases qtS false r <;> rfl
    · rw [List.cons_append, List.cons_append, List.nil_append, qtS, if_neg (by decide), if_neg (by decide), if_pos rfl, qtS]
      simp [escB]; cases qtS false r <;> rfl
  · rw [if_neg h1]
    by_cases h2 : c = 10
    · subst h2
      rw [if_pos rfl, List.cons_append, List.cons_append, List.nil_append, qtS, if_neg (by decide), if_neg (by decide), if_pos rfl, qtS]
      simp [escB]; cases qtS false r <;> rfl
    · rw [if_neg h2]
      by_cases h3 : c = 9
      · subst h3
        rw [if_pos rfl, List.cons_append, List.cons_append, List.nil_append, qtS, if_neg (by decide), if_neg (by decide), if_pos rfl, qtS]
        simp [escB]; cases qtS false r <;> rfl
      · rw [if_neg h3]
        have h4 : ¬ c.toNat < 32 := by
          unfold okB at h
          rw [decide_eq_false h1, beq_eq_false_iff_ne.2 h2, beq_eq_false_iff_ne.2 h3] at h
          simp at h
          omega
        rw [List.cons_append, List.nil_append, qtS, if_neg (fun e => h1 (.inl e)), if_neg h4, if_neg (fun e => h1 (.inr e))]
        simp
theorem esc1_no {c : UInt8} (h : okB c = false) (r : List UInt8) : qtS false (esc1 c ++ r) = none := by
  unfold okB at h
  simp only [Bool.or_eq_false_iff, decide_eq_false_iff_not, beq_eq_false_iff_ne] at h
  obtain ⟨⟨⟨h1, h2⟩, h3⟩, h4⟩ := h
  unfold esc1
  rw [if_neg h1, if_neg h2, if_neg h3, List.cons_append, List.nil_append, qtS, if_neg (fun e => h1 (.inl e)), if_pos (by omega)]
theorem qt_esc (l : List UInt8) : qtS false (escL l ++ [34]) = if l.all okB then some (l, (escL l).length + 1) else none := by
  induction l with
  | nil => rfl
  | cons c r ih =>
    have e : escL (c :: r) = esc1 c ++ escL r := rfl
    rw [e, List.append_assoc]
    cases h : okB c with
    | false => rw [esc1_no h, List.all_cons, h]; rfl
    | true =>
      rw [esc1_ok h, ih, List.all_cons, h, Bool.true_and]
      by_cases h2 : r.all okB = true
      · rw [if_pos h2, if_pos h2, List.length_append]
        simp; omega
      · rw [if_neg h2, if_neg h2]; rfl
theorem esc1_len (c : UInt8) : (esc1 c).length ≤ 2 := by
  unfold esc1
  repeat' split
  all_goals simp
theorem escL_len (l : List UInt8) : (escL l).length ≤ 2 * l.length := by
  induction l with
  | nil => simp [escL]
  | cons c r ih =>
    have e : escL (c :: r) = esc1 c ++ escL r := rfl
    have := esc1_len c
    rw [e, List.length_append, List.length_cons]; omega
theorem escL_snoc (l : List UInt8) (c : UInt8) : escL (l ++ [c]) = escL l ++ esc1 c := by simp [escL]
/-- The text between quotes, a blank ahead. -/
def strT (l : List UInt8) : List UInt8 := 32 :: 34 :: (escL l ++ [34])
def fineB (l : List UInt8) : Bool := decide (l.length ≤ 1024) && l.all okB
theorem strT_len (l : List UInt8) : (strT l).length = (escL l).length + 3 := by simp [strT]
theorem str_scan (l : List UInt8) (h : l.length ≤ 2000) : (fineB l = false → (scanL (strT l)).2 = (1, 1801)) ∧ (fineB l = true → scanL (strT l) = ([⟨3, l, 0, 1⟩, ⟨0, [], 0, (escL l).length + 3⟩], 0, 0)) := by
  have hl := strT_len l
  have hl2 := escL_len l
  have hs : scanL (strT l) = scanF ((strT l).length + 1) (34 :: (escL l ++ [34])) 1 := by
    unfold scanL
    rw [if_neg (by omega)]
    have e : skp false (strT l) = 1 := by
      unfold strT
      rw [skp, if_pos (by decide), skp, if_neg (by decide), if_neg (by decide)]
    rw [e]; rfl
  have hq := qt_esc l
  have ht : tok (34 :: (escL l ++ [34])) = match qtS false (escL l ++ [34]) with
    | none => .error 1801
    | some x => if 1024 < x.1.length then .error 1801 else .ok (3, x.1, 0, x.2 + 1) := by
    unfold tok
    have h0 : (34 :: (escL l ++ [34])).getD 0 0 = (34 : UInt8) := rfl
    rw [h0, if_neg (by decide : ¬ letB 34 = true), if_neg (by decide : ¬ isD 34 = true), if_pos rfl]
    rfl
  rw [hq] at ht
  unfold fineB
  rw [hs, scanF, if_neg (by simp)]
  constructor
  · intro hf
    have he : tok (34 :: (escL l ++ [34])) = .error 1801 := by
      rw [ht]
      by_cases ha : l.all okB = true
      · rw [if_pos ha]
        rw [ha, Bool.and_true, decide_eq_false_iff_not] at hf
        simp only
        rw [if_pos (by omega)]
      · rw [if_neg ha]
    rw [he]
  · intro hf
    rw [Bool.and_eq_true, decide_eq_true_eq] at hf
    have he : tok (34 :: (escL l ++ [34])) = .ok (3, l, 0, (escL l).length + 1 + 1) := by
      rw [ht, if_pos hf.2]
      simp only
      rw [if_neg (by omega)]
    rw [he]
    have hd : (34 :: (escL l ++ [34])).drop ((escL l).length + 1 + 1) = [] := by
      rw [List.drop_succ_cons, List.drop_eq_nil_of_le (by simp)]
    simp only [hd]
    rw [show (strT l).length = (strT l).length - 1 + 1 by omega, scanF, if_pos (by rfl)]
    simp [skp]; omega
end Go.Proofs.YtjanpaallealgaaDoor.lex
