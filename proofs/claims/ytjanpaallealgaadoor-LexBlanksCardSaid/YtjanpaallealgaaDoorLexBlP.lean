/-
  Proved: tokens with other blanks and comments between are the same tokens (plain). Conditions: as each theorem says. No program is in sight.
-/
import Derived.Test.YtjanpaallealgaaDoorLexPlain
namespace Go.Proofs.YtjanpaallealgaaDoor.lex
open Go Go.RowKit
open flt (isD ofT)
set_option linter.unusedVariables false

/-- A byte that ends every token but a string's. -/
def gapB (c : UInt8) : Bool := blankB c || c == 35
theorem gap_all {p : UInt8 → Bool} (h : ∀ n : Fin 256, gapB (UInt8.ofNat n.val) = true → p (UInt8.ofNat n.val) = true) (c : UInt8) (hc : gapB c = true) : p c = true := by
  have := h ⟨c.toNat, c.toNat_lt⟩
  simp only [UInt8.ofNat_toNat] at this
  exact this hc
theorem gap_word {c : UInt8} (h : gapB c = true) : wordB c = false := by
  have := gap_all (p := fun c => !wordB c) (by decide +kernel) c h
  simpa using this
theorem gap_digit {c : UInt8} (h : gapB c = true) : isD c = false := by
  have := gap_all (p := fun c => !isD c) (by decide +kernel) c h
  simpa using this
theorem gap_let {c : UInt8} (h : gapB c = true) : letB c = false := by
  have := gap_all (p := fun c => !letB c) (by decide +kernel) c h
  simpa using this
theorem gap_dot {c : UInt8} (h : gapB c = true) : c ≠ 46 := by
  have := gap_all (p := fun c => c != 46) (by decide +kernel) c h
  simpa using this
theorem gap_eq {c : UInt8} (h : gapB c = true) : c ≠ 61 := by
  have := gap_all (p := fun c => c != 61) (by decide +kernel) c h
  simpa using this
theorem runB_gap (p : UInt8 → Bool) (t : List UInt8) (c : UInt8) (r : List UInt8) (hc : p c = false) : runB p (t.take (runB p t) ++ c :: r) = runB p t := by
  unfold runB
  induction t with
  | nil => simp [hc]
  | cons a q ih =>
    cases h : p a with
    | false => simp [h, hc]
    | true => simp [h, ih]
theorem runB_ge (p : UInt8 → Bool) (t : List UInt8) (n : Nat) (h : runB p t ≤ n) (r : List UInt8) (hr : n < t.length → runB p t < n ∨ True) (hx : runB p t < n) (hn : n ≤ t.length) : runB p (t.take n ++ r) = runB p t := by
  unfold runB at *
  induction t generalizing n with
  | nil => simp at hn; omega
  | cons a q ih =>
    cases hpa : p a with
    | false =>
      rw [List.takeWhile_cons, hpa] at hx ⊢
      cases n with
      | zero => simp at hx
      | succ n => simp [hpa]
    | true =>
      cases n with
      | zero => omega
      | succ n =>
        simp only [List.takeWhile_cons, hpa, if_true, List.length_cons] at h hx hn
        simp only [List.take_succ_cons, List.cons_append, List.takeWhile_cons, hpa, if_true, List.length_cons]
        rw [ih n (by omega) (fun _ => .inr trivial) (by omega) (by omega)]
theorem getD_take {t r : List UInt8} {n i : Nat} (h : i < n) (hn : n ≤ t.length) : (t.take n ++ r).getD i 0 = t.getD i 0 := by
  rw [List.getD_eq_getElem?_getD, List.getD_eq_getElem?_getD, List.getElem?_append_left (by rw [List.length_take]; omega), List.getElem?_take_of_lt h]
theorem getD_gap {t r : List UInt8} {n : Nat} {c : UInt8} (hn : n ≤ t.length) : (t.take n ++ c :: r).getD n 0 = c := by
  rw [List.getD_eq_getElem?_getD, List.getElem?_append_right (by rw [List.length_take]; omega), List.length_take, Nat.min_eq_left hn, Nat.sub_self]
  rfl
theorem take_gap {t r : List UInt8} {n : Nat} (hn : n ≤ t.length) : (t.take n ++ r).take n = t.take n := by
  rw [List.take_append_of_le_length (by rw [List.length_take]; omega), List.take_take, Nat.min_self]
theorem drop_gap {t r : List UInt8} {n : Nat} (hn : n ≤ t.length) : (t.take n ++ r).drop n = r := by
  rw [List.drop_append_of_le_length (by rw [List.length_take]; omega), List.drop_take_self, List.nil_append]
theorem qt_take : ∀ (b : Bool) (l : List UInt8) (x : List UInt8 × Nat) (r : List UInt8), qtS b l = some x → qtS b (l.take x.2 ++ r) = some x
  | _, [], x, r, h => by simp [qtS] at h
  | false, c :: q, x, r, h => by
    rw [qtS] at h
    by_cases h1 : c = 34
    · rw [if_pos h1] at h
      cases h
      simp [qtS, h1]
    · rw [if_neg h1] at h
      by_cases h2 : c.toNat < 32
      · rw [if_pos h2] at h; cases h
      · rw [if_neg h2] at h
        by_cases h3 : c = 92
        · rw [if_pos h3] at h
          obtain ⟨y, hy, rfl⟩ := Option.map_eq_some_iff.1 h
          have := qt_take true q y r hy
          simp only [List.take_succ_cons, List.cons_append]
          rw [qtS, if_neg h1, if_neg h2, if_pos h3, this]; rfl
        · rw [if_neg h3] at h
          obtain ⟨y, hy, rfl⟩ := Option.map_eq_some_iff.1 h
          have := qt_take false q y r hy
          simp only [List.take_succ_cons, List.cons_append]
          rw [qtS, if_neg h1, if_neg h2, if_neg h3, this]; rfl
  | true, d :: q, x, r, h => by
    rw [qtS] at h
    cases he : escB d with
    | none => rw [he] at h; cases h
    | some e =>
      rw [he] at h
      obtain ⟨y, hy, rfl⟩ := Option.map_eq_some_iff.1 h
      have := qt_take false q y r hy
      simp only [List.take_succ_cons, List.cons_append]
      rw [qtS, he]
      simp only [this]; rfl
theorem run_stop (p : UInt8 → Bool) (t : List UInt8) (h : runB p t < t.length) : p (t.getD (runB p t) 0) = false := by
  induction t with
  | nil => simp at h
  | cons a q ih =>
    cases hp : p a with
    | false => simp [runB, hp]
    | true =>
      have e : runB p (a :: q) = runB p q + 1 := by simp [runB, hp]
      rw [e] at h ⊢
      exact ih (by simpa using h)
theorem numEnd_gap (t : List UInt8) (c : UInt8) (r : List UInt8) (hc : gapB c = true) : numEnd (t.take (numEnd t) ++ c :: r) = numEnd t := by
  have hd := gap_digit hc
  have hle := numEnd_le t
  have hm := runB_le isD t
  unfold numEnd at hle ⊢
  split
  · rename_i h
    rw [if_pos h] at hle
    simp only [Bool.and_eq_true, decide_eq_true_iff, beq_iff_eq] at h
    obtain ⟨⟨h1, h2⟩, h3⟩ := h
    have hk : 1 ≤ runB isD (t.drop (runB isD t + 1)) := by
      refine runB_pos (by rw [Ne, List.drop_eq_nil_iff]; omega) ?_
      rw [List.getD_eq_getElem?_getD, List.getElem?_drop, Nat.add_zero, ← List.getD_eq_getElem?_getD]
      exact h3
    have e1 : runB isD (t.take (runB isD t + 1 + runB isD (t.drop (runB isD t + 1))) ++ c :: r) = runB isD t :=
      runB_ge isD t _ (by omega) _ (fun _ => .inr trivial) (by omega) hle
    rw [e1]
    have g1 := getD_take (r := c :: r) (i := runB isD t) (n := runB isD t + 1 + runB isD (t.drop (runB isD t + 1))) (by omega) hle
    have g2 := getD_take (r := c :: r) (i := runB isD t + 1) (n := runB isD t + 1 + runB isD (t.drop (runB isD t + 1))) (by omega) hle
    have e2 : (t.take (runB isD t + 1 + runB isD (t.drop (runB isD t + 1))) ++ c :: r).drop (runB isD t + 1) = (t.drop (runB isD t + 1)).take (runB isD (t.drop (runB isD t + 1))) ++ c :: r := by
      rw [List.drop_append_of_le_length (by rw [List.length_take]; omega), List.drop_take, Nat.add_sub_cancel_left]
    rw [if_pos, e2, runB_gap isD _ c r hd]
    rw [g1, g2, h2, h3, decide_eq_true (by rw [List.length_append, List.length_take]; simp; omega)]; rfl
  · rename_i h
    have e1 := runB_gap isD t c r hd
    rw [e1, getD_gap hm]
    rw [if_neg]
    have := gap_dot hc
    rw [beq_eq_false_iff_ne.2 this]
    simp
theorem tok_gap {t : List UInt8} {x : Int × List UInt8 × Nat × Nat} (h0 : t ≠ []) (h : tok t = .ok x) (c : UInt8) (r : List UInt8) (hc : gapB c = true) : tok (t.take x.2.2.2 ++ c :: r) = .ok x := by
  have hlen := tok_len h0 h
  have hfst : (t.take x.2.2.2 ++ c :: r).getD 0 0 = t.getD 0 0 := getD_take (by omega) hlen.2
  unfold tok at h ⊢
  rw [hfst]
  by_cases hl : letB (t.getD 0 0) = true
  · rw [if_pos hl] at h ⊢
    by_cases h32 : 32 < runB wordB t
    · rw [if_pos h32] at h; cases h
    · rw [if_neg h32] at h
      cases h
      have e := runB_gap wordB t c r (gap_word hc)
      simp only [e]
      rw [if_neg h32, take_gap (runB_le _ _)]
  · rw [if_neg hl] at h ⊢
    by_cases hd : isD (t.getD 0 0) = true
    · rw [if_pos hd] at h ⊢
      cases ho : ofT (t.take (numEnd t)) with
      | none => rw [ho] at h; cases h
      | some v =>
        rw [ho] at h
        simp only at h
        by_cases hb : (decide (numEnd t < t.length) && (letB (t.getD (numEnd t) 0) || t.getD (numEnd t) 0 == 46)) = true
        · rw [if_pos hb] at h; cases h
        · rw [if_neg hb] at h
          cases h
          have e := numEnd_gap t c r hc
          simp only [e]
          rw [take_gap (numEnd_le t), ho, getD_gap (numEnd_le t), gap_let hc, beq_eq_false_iff_ne.2 (gap_dot hc)]
          simp
    · rw [if_neg hd] at h ⊢
      by_cases hq : t.getD 0 0 = 34
      · rw [if_pos hq] at h ⊢
        cases hqt : qtS false (t.drop 1) with
        | none => rw [hqt] at h; cases h
        | some y =>
          rw [hqt] at h
          simp only at h
          by_cases hb : 1024 < y.1.length
          · rw [if_pos hb] at h; cases h
          · rw [if_neg hb] at h
            cases h
            have e2 : (t.take (y.2 + 1) ++ c :: r).drop 1 = (t.drop 1).take y.2 ++ c :: r := by
              cases t with
              | nil => exact absurd rfl h0
              | cons a q => rfl
            simp only [e2, qt_take false _ _ _ hqt]
            rw [if_neg hb]
      · rw [if_neg hq] at h ⊢
        by_cases he : t.getD 0 0 = 61 ∧ 1 < t.length ∧ t.getD 1 0 = 61
        · rw [if_pos he] at h
          cases h
          rw [if_pos ⟨he.1, by rw [List.length_append, List.length_take]; simp; omega, by rw [getD_take (by omega) (show 2 ≤ t.length from he.2.1)]; exact he.2.2⟩]
        · rw [if_neg he] at h
          by_cases hs : signB (t.getD 0 0) = true
          · rw [if_pos hs] at h
            cases h
            rw [if_neg, if_pos hs]
            rintro ⟨-, -, h3⟩
            rw [getD_gap (show 1 ≤ t.length from hlen.2)] at h3
            exact gap_eq hc h3
          · rw [if_neg hs] at h; cases h
/-- What stands between. -/
def sepL (i : Nat) : List UInt8 := if i % 4 = 0 then [32] else if i % 4 = 1 then [10] else if i % 4 = 2 then [35, 32, 120, 10] else [9, 13, 10, 32]
theorem sep_head (i : Nat) : ∃ c r, sepL i = c :: r ∧ gapB c = true := by
  unfold sepL
  repeat' split
  all_goals exact ⟨_, _, rfl, by decide⟩
theorem sep_len (i : Nat) : (sepL i).length ≤ 4 := by
  unfold sepL
  repeat' split
  all_goals simp
theorem sep_skp (i : Nat) (r : List UInt8) : skp false (sepL i ++ r) = (sepL i).length + skp false r := by
  unfold sepL
  repeat' split
  all_goals
    simp [skp, blankB]
    try omega
theorem skp_idem : ∀ (b : Bool) (l : List UInt8), skp false (l.drop (skp b l)) = 0
  | _, [] => by simp [skp]
  | false, c :: r => by
    have h1 := skp_idem false r
    have h2 := skp_idem true r
    rw [skp]
    split
    · exact h1
    · split
      · exact h2
      · rename_i h3 h4
        rw [List.drop_zero, skp, if_neg h3, if_neg h4]
  | true, c :: r => by
    have h1 := skp_idem false r
    have h2 := skp_idem true r
    rw [skp]
    split
    · exact h1
    · exact h2
/-- The text with other blanks between. -/
def blkF : Nat → List UInt8 → Nat → List UInt8
  | 0, _, _ => []
  | f + 1, t, i => if t = [] then [] else match tok t with
    | .error _ => []
    | .ok x => t.take x.2.2.2 ++ (sepL i ++ blkF f ((t.drop x.2.2.2).drop (skp false (t.drop x.2.2.2))) (i + 1))
theorem blk_len (f : Nat) (t : List UInt8) (i : Nat) : (blkF f t i).length ≤ 5 * t.length := by
  induction f generalizing t i with
  | zero => simp [blkF]
  | succ f ih =>
    rw [blkF]
    split
    · simp
    · rename_i h0
      split
      · simp
      · rename_i x hx
        have hl := tok_len h0 hx
        have h1 := ih ((t.drop x.2.2.2).drop (skp false (t.drop x.2.2.2))) (i + 1)
        have h2 := sep_len i
        rw [List.length_drop, List.length_drop] at h1
        rw [List.length_append, List.length_append, List.length_take]
        omega
theorem blk_skp (f : Nat) (t : List UInt8) (i : Nat) (h : skp false t = 0) : skp false (blkF f t i) = 0 := by
  cases f with
  | zero => rfl
  | succ f =>
    rw [blkF]
    split
    · rfl
    · rename_i h0
      split
      · rfl
      · rename_i x hx
        have hl := tok_len h0 hx
        cases t with
        | nil => exact absurd rfl h0
        | cons c q =>
          rw [show x.2.2.2 = x.2.2.2 - 1 + 1 by omega, List.take_succ_cons, List.cons_append]
          rw [skp] at h ⊢
          by_cases h1 : blankB c = true
          · rw [if_pos h1] at h; omega
          · rw [if_neg h1] at h ⊢
            by_cases h2 : c = 35
            · rw [if_pos h2] at h; omega
            · rw [if_neg h2]
def sameT (a b : List Tk) : Prop := a.map (fun t => (t.kind, t.text)) = b.map (fun t => (t.kind, t.text))
theorem blk_scan (f : Nat) (t : List UInt8) (a i : Nat) (f2 b : Nat) (ht : t.length < f) (hf : (scanF f t a).2.2 = 0) (hf2 : (blkF f t i).length < f2) :
    (scanF f2 (blkF f t i) b).2.2 = 0 ∧ sameT (scanF f t a).1 (scanF f2 (blkF f t i) b).1 := by
  induction f generalizing t a i f2 b with
  | zero => omega
  | succ f ih =>
    cases f2 with
    | zero => omega
    | succ f2 =>
      by_cases h0 : t = []
      · have e1 : blkF (f + 1) t i = [] := by rw [blkF, if_pos h0]
        have e2 : scanF (f2 + 1) [] b = ([⟨0, [], 0, b⟩], 0, 0) := by rw [scanF, if_pos rfl]
        have e3 : scanF (f + 1) t a = ([⟨0, [], 0, a⟩], 0, 0) := by rw [scanF, if_pos h0]
        rw [e1, e2, e3]
        exact ⟨rfl, rfl⟩
      · cases hx : tok t with
        | error e =>
          rw [scanF, if_neg h0, hx] at hf
          exact absurd hf (by
            have : e ≠ 0 := by
              unfold tok at hx
              repeat' split at hx
              all_goals (cases hx; try decide)
            exact this)
        | ok x =>
          have hl := tok_len h0 hx
          obtain ⟨c, r, hs, hg⟩ := sep_head i
          have e1 : blkF (f + 1) t i = t.take x.2.2.2 ++ (sepL i ++ blkF f ((t.drop x.2.2.2).drop (skp false (t.drop x.2.2.2))) (i + 1)) := by rw [blkF, if_neg h0, hx]
          have e2 : tok (blkF (f + 1) t i) = .ok x := by
            rw [e1, hs, List.cons_append]
            exact tok_gap h0 hx c _ hg
          have hlen : (blkF (f + 1) t i).length = x.2.2.2 + ((sepL i).length + (blkF f ((t.drop x.2.2.2).drop (skp false (t.drop x.2.2.2))) (i + 1)).length) := by
            rw [e1, List.length_append, List.length_append, List.length_take, Nat.min_eq_left hl.2]
          have e3 : blkF (f + 1) t i ≠ [] := by
            intro e
            rw [e] at hlen
            have h6 : ([] : List UInt8).length = 0 := rfl
            omega
          have e4 : (blkF (f + 1) t i).drop x.2.2.2 = sepL i ++ blkF f ((t.drop x.2.2.2).drop (skp false (t.drop x.2.2.2))) (i + 1) := by
            rw [e1]; exact drop_gap hl.2
          have hz : skp false (blkF f ((t.drop x.2.2.2).drop (skp false (t.drop x.2.2.2))) (i + 1)) = 0 := blk_skp _ _ _ (skp_idem _ _)
          have e5 : skp false (sepL i ++ blkF f ((t.drop x.2.2.2).drop (skp false (t.drop x.2.2.2))) (i + 1)) = (sepL i).length := by rw [sep_skp, hz]; rfl
          have e6 : (sepL i ++ blkF f ((t.drop x.2.2.2).drop (skp false (t.drop x.2.2.2))) (i + 1)).drop (sepL i).length = blkF f ((t.drop x.2.2.2).drop (skp false (t.drop x.2.2.2))) (i + 1) := by simp
          rw [scanF, if_neg h0, hx] at hf
          simp only at hf
          have hi := ih ((t.drop x.2.2.2).drop (skp false (t.drop x.2.2.2))) (a + x.2.2.2 + skp false (t.drop x.2.2.2)) (i + 1) f2 (b + x.2.2.2 + (sepL i).length) (by rw [List.length_drop, List.length_drop]; omega) hf (by omega)
          have e7 : scanF (f2 + 1) (blkF (f + 1) t i) b = (⟨x.1, x.2.1, x.2.2.1, b⟩ :: (scanF f2 (blkF f ((t.drop x.2.2.2).drop (skp false (t.drop x.2.2.2))) (i + 1)) (b + x.2.2.2 + (sepL i).length)).1, (scanF f2 (blkF f ((t.drop x.2.2.2).drop (skp false (t.drop x.2.2.2))) (i + 1)) (b + x.2.2.2 + (sepL i).length)).2) := by
            rw [scanF, if_neg e3, e2]
            simp only [e4, e5, e6]
          have e8 : scanF (f + 1) t a = (⟨x.1, x.2.1, x.2.2.1, a⟩ :: (scanF f ((t.drop x.2.2.2).drop (skp false (t.drop x.2.2.2))) (a + x.2.2.2 + skp false (t.drop x.2.2.2))).1, (scanF f ((t.drop x.2.2.2).drop (skp false (t.drop x.2.2.2))) (a + x.2.2.2 + skp false (t.drop x.2.2.2))).2) := by
            rw [scanF, if_neg h0, hx]
          rw [e7, e8]
          refine ⟨hi.1, ?_⟩
          unfold sameT
          rw [List.map_cons, List.map_cons]
          have := hi.2
          unfold sameT at this
          rw [this]
end Go.Proofs.YtjanpaallealgaaDoor.lex
