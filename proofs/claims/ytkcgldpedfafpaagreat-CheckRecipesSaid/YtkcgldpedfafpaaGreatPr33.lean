/-
  Proved: how many names a tree sets at most (plain). Conditions: as each theorem says. No program is in sight.
  Proved: no node of a tree that is read has more kids than there was fuel (plain). Conditions: as each theorem says. No program is in sight.
  Proved: what LendTree returns: the tree once more, its lists with one more node behind. Conditions: as each theorem says.
  Proved: KeptTree tells that a tree is kept. Conditions: as each theorem says.
-/
import Derived.Test.YtkcgldpedfafpaaGreatPr10
import Derived.Test.YtkcgldpedfafpaaGreatPr23
import Derived.Test.YtkcgldpedfafpaaGreatPr24
import Derived.Laws.MakeOwn
import Derived.Test.YtkcgldpedfafpaaGreatPr18
import Derived.StillTailTactics
namespace Go.Proofs.YtkcgldpedfafpaaGreat.par
open Go Go.RowKit
open lex (Tk)
open many (recipeR)
set_option linter.unusedVariables false

mutual
/-- How many statements set. -/
def cnt9 : Nd → Nat
 | .mk k t n ks a => (if k = 9 then 1 else 0) + cntL ks
def cntL : List Nd → Nat
 | [] => 0
 | x :: r => cnt9 x + cntL r
end
theorem cntL_app (l r : List Nd) : cntL (l ++ r) = cntL l + cntL r := by
 induction l with
 | nil => simp [cntL]
 | cons x l ih => simp [cntL, ih, Nat.add_assoc]
theorem cntL_one (x : Nd) : cntL [x] = cnt9 x := by simp [cntL]
theorem cnt_kids (x : Nd) : cntL x.kids ≤ cnt9 x := by
 cases x; rw [cnt9]; exact Nat.le_add_left _ _
theorem cntL_mem {l : List Nd} {x : Nd} (h : x ∈ l) : cnt9 x ≤ cntL l := by
 induction l with
 | nil => cases h
 | cons y l ih =>
  rw [cntL]
  rcases List.mem_cons.1 h with e | h
  ·subst e; omega
  ·have := ih h; omega
theorem cnt_no {k : Int} {t : List UInt8} {n : Nat} {ks : List Nd} {a : Int} (h : k ≠ 9) : cnt9 (.mk k t n ks a) = cntL ks := by
 rw [cnt9, if_neg h, Nat.zero_add]
def jobC : Job → Nat
 | .binL _ x => cnt9 x
 | .args ks => cntL ks
 | .blockL ks => cntL ks
 | _ => 0
theorem cnt_zero : cntL [zero] = 0 := by decide
theorem run_cnt (E : PE) (f : Nat) : ∀ (j : Job) (s : PS) (ks : List Nd) (s2 : PS), run E f j s = some (ks, s2) → cntL ks + ms E s2 ≤ jobC j + ms E s := by
 induction f with
 | zero => intro j s ks s2 hr; cases j <;> cases hr
 | succ f ih =>
  intro j s ks s2 hr
  have hs := ms_sT E s
  have hz := cnt_zero
  cases j with
  | bin l =>
   rw [run] at hr
   split at hr
   ·have h2 := ih _ _ _ _ hr
    exact h2
   ·split at hr
    ·rename_i x s3 h1
     have h2 := ih _ _ _ _ h1
     have h3 := ih _ _ _ _ hr
     simp only [jobC, cntL_one] at h2 h3 ⊢
     omega
    ·cases hr
  | binL l x =>
   rw [run] at hr
   simp only [jobC]
   split at hr
   ·cases hr; rw [cntL_one]; exact Nat.le_refl _
   ·split at hr
    ·rename_i ha
     have hi := ms_inc (E := E) (s := s) (by rw [isAny_kind ha]; decide)
     split at hr
     ·rename_i y s3 h1
      have h2 := ih _ _ _ _ h1
      have h4 : cnt9 (.mk 18 (tk E s).text 0 [x, y] (tk E s).at') = cnt9 x + cnt9 y := by rw [cnt_no (by decide)]; simp [cntL]
      simp only [jobC, cntL_one] at h2
      split at hr
      ·cases hr; rw [cntL_one, h4]; omega
      ·have h3 := ih _ _ _ _ hr
       simp only [jobC] at h3
       rw [h4] at h3
       omega
     ·cases hr
    ·cases hr; rw [cntL_one]; omega
  | unary =>
   rw [run] at hr
   simp only [jobC]
   split at hr
   ·rename_i ha
    have hk : (tk E s).kind ≠ 0 := by
     rcases Bool.or_eq_true_iff.1 ha with h1 | h1
     ·rw [(isS_kind h1).1]; decide
     ·rw [(isS_kind h1).1]; decide
    have hi := ms_inc (E := E) hk
    have hs2 := ms_sT E (inc (sT E s))
    have hin := ms_into E (sT E (inc (sT E s))) (tk E (inc (sT E s))).at'
    split at hr
    ·split at hr
     ·split at hr
      ·rename_i x s3 h1
       cases hr
       have h2 := ih _ _ _ _ h1
       simp only [jobC, cntL_one] at h2
       rw [cntL_one, cnt_no (by decide), cntL_one, ms_out]
       omega
      ·cases hr
     ·cases hr; omega
    ·cases hr; rw [ms_wrong]; omega
   ·have h2 := ih _ _ _ _ hr
    simp only [jobC] at h2
    omega
  | inner =>
   rw [run] at hr
   simp only [jobC]
   have hin := ms_into E (sT E s) (tk E s).at'
   split at hr
   ·split at hr
    ·split at hr
     ·rename_i x s3 h1
      cases hr
      have h2 := ih _ _ _ _ h1
      simp only [jobC, cntL_one] at h2
      rw [cntL_one, ms_out]
      omega
     ·cases hr
    ·cases hr; omega
   ·cases hr; rw [ms_wrong]; omega
  | primary =>
   rw [run] at hr
   simp only [jobC]
   split at hr
   ·rename_i h2
    have hi := ms_inc (E := E) (s := s) (by rw [h2]; decide)
    cases hr; rw [cntL_one, cnt_no (by decide), cntL]; omega
   ·split at hr
    ·rename_i h3
     have hi := ms_inc (E := E) (s := s) (by rw [h3]; decide)
     cases hr; rw [cntL_one, cnt_no (by decide), cntL]; omega
    ·split at hr
     ·rename_i h4
      have hi := ms_inc (E := E) (s := s) (by rw [(isS_kind h4).1]; decide)
      split at hr
      ·rename_i x s3 h1
       cases hr
       have h2 := ih _ _ _ _ h1
       have h5 := ms_must E [41] s3
       simp only [jobC, cntL_one] at h2
       rw [cntL_one]
       omega
      ·cases hr
     ·split at hr
      ·rename_i h5
       have hi := ms_inc (E := E) (s := s) (by rw [h5.1]; decide)
       have hi2 : ms E (two E s) ≤ ms E (inc (sT E s)) := ms_i rfl (by show (sT E s).i + 1 ≤ s.i + 2; rw [sT_i]; omega)
       split at hr
       ·rename_i qs s3 h1
        cases hr
        have h2 := ih _ _ _ _ h1
        have h6 := ms_must E [41] s3
        simp only [jobC, cntL] at h2
        rw [cntL_one, cnt_no (by decide)]
        omega
       ·cases hr
      ·split at hr
       ·rename_i h6
        have hi := ms_inc (E := E) (s := s) (by rw [h6.1]; decide)
        cases hr; rw [cntL_one, cnt_no (by decide), cntL]; omega
       ·cases hr; rw [ms_wrong]; omega
  | args qs =>
   rw [run] at hr
   simp only [jobC]
   split at hr
   ·cases hr; omega
   ·split at hr
    ·rename_i x s3 h1
     have h2 := ih _ _ _ _ h1
     simp only [jobC, cntL_one] at h2
     have hs3 := ms_sT E s3
     split at hr
     ·rename_i h4
      have hi := ms_inc (E := E) (s := s3) (by rw [(isS_kind h4).1]; decide)
      have hs4 := ms_sT E (inc (sT E s3))
      split at hr
      ·have h3 := ih _ _ _ _ hr
       simp only [jobC, cntL_app, cntL_one, ms_wrong] at h3
       omega
      ·have h3 := ih _ _ _ _ hr
       simp only [jobC, cntL_app, cntL_one] at h3
       omega
     ·cases hr
      rw [cntL_app, cntL_one]
      omega
    ·cases hr
  | block =>
   rw [run] at hr
   simp only [jobC]
   have hin := ms_into E (sT E s) (tk E s).at'
   split at hr
   ·cases hr; omega
   ·have hm : ms E (must E [123] (if isS E [123] s then (into (sT E s) (tk E s).at').2 else sT E s)) ≤ ms E s := by
     refine Nat.le_trans (ms_must _ _ _) ?_
     split <;> omega
    split at hr
    ·rename_i qs s3 h1
     cases hr
     have h2 := ih _ _ _ _ h1
     have h6 := ms_must E [125] s3
     simp only [jobC, cntL] at h2
     rw [cntL_one, cnt_no (by decide), ms_out]
     omega
    ·cases hr
  | blockL qs =>
   rw [run] at hr
   simp only [jobC]
   split at hr
   ·cases hr; exact Nat.le_refl _
   ·split at hr
    ·cases hr; omega
    ·split at hr
     ·rename_i x s3 h1
      have h2 := ih _ _ _ _ h1
      have h3 := ih _ _ _ _ hr
      simp only [jobC, cntL_app, cntL_one] at h2 h3
      omega
     ·cases hr
  | stmt =>
   rw [run] at hr
   simp only [jobC]
   split at hr
   ·rename_i h1
    have hi := ms_inc (E := E) (s := s) (by rw [(isW_kind h1).1]; decide)
    have hn := ms_pName E (inc (sT E s))
    have hm := ms_must E [61] (pName E (inc (sT E s))).2
    split at hr
    ·rename_i x s3 h2
     cases hr
     have h3 := ih _ _ _ _ h2
     have h4 := ms_must E [59] s3
     simp only [jobC, cntL_one] at h3
     rw [cntL_one, cnt9, if_pos rfl, cntL_one]
     omega
    ·cases hr
   ·split at hr
    ·rename_i h2
     have hi := ms_inc (E := E) (s := s) (by rw [(isW_kind h2).1]; decide)
     split at hr
     ·rename_i c s3 h3
      have hc := ih _ _ _ _ h3
      simp only [jobC, cntL_one] at hc
      split at hr
      ·rename_i b s4 h4
       have hb := ih _ _ _ _ h4
       simp only [jobC, cntL_one] at hb
       have hs4 := ms_sT E s4
       split at hr
       ·rename_i h5
        have hi4 := ms_inc (E := E) (s := s4) (by rw [(isW_kind h5).1]; decide)
        split at hr
        ·rename_i o s5 h6
         have ho := ih _ _ _ _ h6
         simp only [jobC, cntL_one] at ho
         cases hr
         rw [cntL_one, cnt_no (by decide)]
         simp only [cntL]
         omega
        ·cases hr
       ·cases hr
        rw [cntL_one, cnt_no (by decide)]
        simp only [cntL, cnt9]
        have : (if (0 : Int) = 9 then 1 else 0) = 0 := by decide
        omega
      ·cases hr
     ·cases hr
    ·split at hr
     ·rename_i h2
      have hi := ms_inc (E := E) (s := s) (by rw [(isW_kind h2).1]; decide)
      split at hr
      ·rename_i c s3 h3
       have hc := ih _ _ _ _ h3
       simp only [jobC, cntL_one] at hc
       split at hr
       ·rename_i b s4 h4
        have hb := ih _ _ _ _ h4
        simp only [jobC, cntL_one] at hb
        cases hr
        rw [cntL_one, cnt_no (by decide)]
        simp only [cntL]
        omega
       ·cases hr
      ·cases hr
     ·split at hr
      ·rename_i h4
       have hk : (tk E s).kind ≠ 0 := by
        rcases Bool.or_eq_true_iff.1 h4 with h5 | h5
        ·rw [(isW_kind h5).1]; decide
        ·rw [(isW_kind h5).1]; decide
       have hi := ms_inc (E := E) hk
       split at hr
       ·rename_i x s3 h2
        have h3 := ih _ _ _ _ h2
        have h6 := ms_must E [59] s3
        simp only [jobC, cntL_one] at h3
        cases hr
        rw [cntL_one, cnt_no (by split <;> decide), cntL_one]
        omega
       ·cases hr
      ·cases hr
       rw [cntL_one, cnt_no (by decide), cntL, ms_wrong]
       omega
theorem named_cnt (E : PE) (w : List UInt8) (a : Int) (s : PS) : cnt9 (named E w a s).1 = 0 := by
 unfold named
 split <;> (rw [cnt_no (by decide)]; rfl)
theorem step_cnt (E : PE) (f : Nat) {s s2 : PS} {x : Nd} (hr : stepR E f s = some (x, s2)) : cnt9 x + ms E s2 ≤ ms E s := by
 have hs := ms_sT E s
 unfold stepR at hr
 split at hr
 ·rename_i h1
  have hi := ms_inc (E := E) (s := s) (by rw [(isW_kind h1).1]; decide)
  have h2 := ms_pText E (inc (sT E s))
  have h3 := ms_pText E (pText E (inc (sT E s))).2
  have h4 := ms_named E wFrom (tk E s).at' (pText E (pText E (inc (sT E s))).2).2
  have h5 := ms_must E [59] (named E wFrom (tk E s).at' (pText E (pText E (inc (sT E s))).2).2).2
  have h6 := named_cnt E wFrom (tk E s).at' (pText E (pText E (inc (sT E s))).2).2
  cases hr
  rw [cnt_no (by decide)]
  simp only [cntL]
  rw [cnt_no (by decide), cntL, h6]
  omega
 ·split at hr
  ·rename_i h1
   have hi := ms_inc (E := E) (s := s) (by rw [(isW_kind h1).1]; decide)
   split at hr
   ·rename_i b s3 h2
    have h3 := run_cnt E f _ _ _ _ h2
    simp only [jobC, cntL_one] at h3
    cases hr
    rw [cnt_no (by decide), cntL_one]
    omega
   ·cases hr
  ·split at hr
   ·rename_i h3
    have hk : (tk E s).kind = 1 := by
     rw [Bool.or_eq_true, Bool.or_eq_true] at h3
     rcases h3 with (h | h) | h <;> exact (isW_kind h).1
    have hi := ms_inc (E := E) (s := s) (by rw [hk]; decide)
    have h2 := ms_pText E (inc (sT E s))
    have h5 := ms_must E [59] (pText E (inc (sT E s))).2
    cases hr
    rw [cnt_no (by split <;> (first | decide | (split <;> decide))), cntL]
    omega
   ·cases hr
    rw [cnt_no (by decide), cntL, ms_wrong]
    omega
theorem steps_cnt (E : PE) (f m : Nat) : ∀ (qs ks : List Nd) (s s2 : PS), stepsR E f m qs s = some (ks, s2) → cntL ks + ms E s2 ≤ cntL qs + ms E s := by
 induction m with
 | zero => intro qs ks s s2 hr; cases hr
 | succ m ih =>
  intro qs ks s s2 hr
  rw [stepsR] at hr
  have hs := ms_sT E s
  split at hr
  ·cases hr; exact Nat.le_refl _
  ·split at hr
   ·cases hr; omega
   ·split at hr
    ·rename_i x s3 h1
     have h2 := step_cnt E f h1
     have h3 := ih _ _ _ _ hr
     simp only [cntL_app, cntL_one] at h3
     omega
    ·cases hr
theorem stage_cnt (E : PE) (f n : Nat) {s s2 : PS} {x : Nd} (hr : stageR E f n s = some (x, s2)) : cnt9 x + ms E s2 ≤ ms E s := by
 have hs := ms_sT E s
 unfold stageR at hr
 split at hr
 ·rename_i h1
  have hi := ms_inc (E := E) (s := s) (by rw [(isW_kind h1).1]; decide)
  have h2 := ms_pText E (inc (sT E s))
  have h4 := ms_named E wAs (tk E s).at' (pText E (inc (sT E s))).2
  have h5 := ms_must E [59] (named E wAs (tk E s).at' (pText E (inc (sT E s))).2).2
  have h6 := named_cnt E wAs (tk E s).at' (pText E (inc (sT E s))).2
  split at hr
  ·rename_i ks s3 h7
   have h8 := steps_cnt E f n _ _ _ _ h7
   cases hr
   rw [cntL_one, h6] at h8
   rw [cnt_no (by decide)]
   omega
  ·cases hr
 ·cases hr
  rw [cnt_no (by decide), cntL, ms_wrong]
  omega
theorem stages_cnt (E : PE) (f n m : Nat) : ∀ (qs ks : List Nd) (s s2 : PS), stagesR E f n m qs s = some (ks, s2) → cntL ks + ms E s2 ≤ cntL qs + ms E s := by
 induction m with
 | zero => intro qs ks s s2 hr; cases hr
 | succ m ih =>
  intro qs ks s s2 hr
  rw [stagesR] at hr
  have hs := ms_sT E s
  split at hr
  ·cases hr; exact Nat.le_refl _
  ·split at hr
   ·cases hr; omega
   ·split at hr
    ·rename_i x s3 h1
     have h2 := stage_cnt E f n h1
     have h3 := ih _ _ _ _ hr
     simp only [cntL_app, cntL_one] at h3
     omega
    ·cases hr
theorem recipe_cnt (E : PE) (f n m : Nat) {s s2 : PS} {x : Nd} (hr : recipeR E f n m s = some (x, s2)) : cnt9 x ≤ ms E s := by
 have hs := ms_sT E s
 unfold recipeR at hr
 split at hr
 ·rename_i y s3 h1
  have h2 := stage_cnt E f n h1
  split at hr
  ·rename_i ks s4 h3
   have h4 := stages_cnt E f n m _ _ _ _ h3
   cases hr
   rw [cntL_one] at h4
   rw [cnt_no (by decide)]
   omega
  ·cases hr
 ·cases hr
end Go.Proofs.YtkcgldpedfafpaaGreat.par
namespace Go.Proofs.YtkcgldpedfafpaaGreat.chk
open Go Go.RowKit
open par (Nd cnt9 cntL)
theorem after_len (k : Int) (t : Nm) (set : List Nm) : (after k t set).length ≤ set.length + (if k = 9 then 1 else 0) := by
 unfold after
 split
 ·rename_i h
  rw [List.length_append, if_pos h.1]
  exact Nat.le_refl _
 ·omega
mutual
theorem nodeR_len (fn : Nm → Option Int) : ∀ (x : Nd) (c : CS), (nodeR fn x c).set.length ≤ c.set.length + cnt9 x
 | .mk k t n ks a, c => by
  rw [nodeR]
  have h1 := kidsR_len fn ks (if faultOf fn k t ks.length c.set = 0 then c else cflt c (faultOf fn k t ks.length c.set) a)
  have h2 : (if faultOf fn k t ks.length c.set = 0 then c else cflt c (faultOf fn k t ks.length c.set) a).set = c.set := by
   unfold cflt; split <;> (try split) <;> rfl
  rw [h2] at h1
  have h3 := after_len k t (kidsR fn ks (if faultOf fn k t ks.length c.set = 0 then c else cflt c (faultOf fn k t ks.length c.set) a)).set
  rw [cnt9]
  show (after _ _ _).length ≤ _
  omega
theorem kidsR_len (fn : Nm → Option Int) : ∀ (l : List Nd) (c : CS), (kidsR fn l c).set.length ≤ c.set.length + cntL l
 | [], c => by rw [kidsR, cntL]; exact Nat.le_refl _
 | x :: r, c => by
  rw [kidsR, cntL]
  have h1 := nodeR_len fn x c
  have h2 := kidsR_len fn r (nodeR fn x c)
  omega
end
end Go.Proofs.YtkcgldpedfafpaaGreat.chk

namespace Go.Proofs.YtkcgldpedfafpaaGreat.par
open Go Go.RowKit
open lex (Tk)
open many (recipeR)
set_option linter.unusedVariables false

/-- No node has more kids. -/
inductive Wide (B : Nat) : Nd → Prop where
 | mk (k : Int) (t : List UInt8) (n : Nat) (ks : List Nd) (a : Int) (h : ks.length ≤ B) (hk : ∀ y ∈ ks, Wide B y) : Wide B (.mk k t n ks a)
theorem Wide.len {B : Nat} {x : Nd} (h : Wide B x) : x.kids.length ≤ B := by cases h; assumption
theorem Wide.kid {B : Nat} {x : Nd} (h : Wide B x) : ∀ y ∈ x.kids, Wide B y := by cases h; assumption
def WideL (B : Nat) (ks : List Nd) : Prop := ks.length ≤ B ∧ ∀ y ∈ ks, Wide B y
theorem WideL.nd {B : Nat} {k : Int} {t : List UInt8} {n : Nat} {ks : List Nd} {a : Int} (h : WideL B ks) : Wide B (.mk k t n ks a) := .mk k t n ks a h.1 h.2
theorem WideL.nil (B : Nat) : WideL B [] := ⟨Nat.zero_le _, fun y hy => by cases hy⟩
theorem WideL.cons {B : Nat} {x : Nd} {ks : List Nd} (hx : Wide B x) (h : WideL B ks) (hl : ks.length + 1 ≤ B) : WideL B (x :: ks) := ⟨hl, fun y hy => by
 rcases List.mem_cons.1 hy with e | hy
 ·subst e; exact hx
 ·exact h.2 y hy⟩
theorem WideL.snoc {B : Nat} {x : Nd} {ks : List Nd} (h : ∀ y ∈ ks, Wide B y) (hx : Wide B x) : ∀ y ∈ ks ++ [x], Wide B y := fun y hy => by
 rcases List.mem_append.1 hy with hy | hy
 ·exact h y hy
 ·rw [List.mem_singleton] at hy; subst hy; exact hx
theorem WideL.one {B : Nat} {x : Nd} (h : WideL B [x]) : Wide B x := h.2 x (List.mem_singleton.2 rfl)
theorem WideL.of {B : Nat} {x : Nd} (h : Wide B x) (hB : 3 ≤ B) : WideL B [x] := .cons h (.nil B) (by simp; omega)
theorem wide0 (B : Nat) (k : Int) (t : List UInt8) (n : Nat) (a : Int) : Wide B (.mk k t n [] a) := (WideL.nil B).nd
def lenJ : Job → Nat
 | .args ks => ks.length
 | .blockL ks => ks.length
 | _ => 0
def jobK : Job → List Nd
 | .binL _ x => [x]
 | .args ks => ks
 | .blockL ks => ks
 | _ => []
theorem noK {B : Nat} : ∀ y ∈ ([] : List Nd), Wide B y := fun y hy => by cases hy
theorem run_wide (E : PE) (B : Nat) (hB : 3 ≤ B) (f : Nat) : ∀ (j : Job) (s : PS) (ks : List Nd) (s2 : PS), f + lenJ j ≤ B → (∀ y ∈ jobK j, Wide B y) → run E f j s = some (ks, s2) → WideL B ks := by
 induction f with
 | zero => intro j s ks s2 _ _ hr; cases j <;> cases hr
 | succ f ih0 =>
  intro j s ks s2 hf hj hr
  have ih := fun {j : Job} {s : PS} {ks : List Nd} {s2 : PS} (hr : run E f j s = some (ks, s2)) (hl : f + lenJ j ≤ B) (hk : ∀ y ∈ jobK j, Wide B y) => ih0 j s ks s2 hl hk hr
  have hz : WideL B [zero] := .of (wide0 B _ _ _ _) hB
  cases j with
  | bin l =>
   simp only [lenJ] at hf
   rw [run] at hr
   split at hr
   ·exact ih hr (by simp only [lenJ]; omega) noK
   ·split at hr
    ·rename_i x s3 h1
     have h2 := ih h1 (by simp only [lenJ]; omega) noK
     exact ih hr (by simp only [lenJ]; omega) h2.2
    ·cases hr
  | binL l x =>
   simp only [lenJ] at hf
   have hx : Wide B x := hj x (List.mem_singleton.2 rfl)
   rw [run] at hr
   split at hr
   ·cases hr; exact .of hx hB
   ·split at hr
    ·split at hr
     ·rename_i y s3 h1
      have h2 := (ih h1 (by simp only [lenJ]; omega) noK).one
      have h3 : WideL B [x, y] := .cons hx (.of h2 hB) (by simp; omega)
      split at hr
      ·cases hr; exact .of h3.nd hB
      ·exact ih hr (by simp only [lenJ]; omega) (fun y hy => by
        rw [List.mem_singleton.1 (show y ∈ [_] from hy)]; exact h3.nd)
     ·cases hr
    ·cases hr; exact .of hx hB
  | unary =>
   simp only [lenJ] at hf
   rw [run] at hr
   split at hr
   ·split at hr
    ·split at hr
     ·split at hr
      ·rename_i x s3 h1
       cases hr
       exact .of (ih h1 (by simp only [lenJ]; omega) noK).nd hB
      ·cases hr
     ·cases hr; exact hz
    ·cases hr; exact hz
   ·exact ih hr (by simp only [lenJ]; omega) noK
  | inner =>
   simp only [lenJ] at hf
   rw [run] at hr
   split at hr
   ·split at hr
    ·split at hr
     ·rename_i x s3 h1
      cases hr
      exact ih h1 (by simp only [lenJ]; omega) noK
     ·cases hr
    ·cases hr; exact hz
   ·cases hr; exact hz
  | primary =>
   simp only [lenJ] at hf
   rw [run] at hr
   split at hr
   ·cases hr; exact .of (wide0 B _ _ _ _) hB
   ·split at hr
    ·cases hr; exact .of (wide0 B _ _ _ _) hB
    ·split at hr
     ·split at hr
      ·rename_i x s3 h1
       cases hr
       exact ih h1 (by simp only [lenJ]; omega) noK
      ·cases hr
     ·split at hr
      ·split at hr
       ·rename_i qs s3 h1
        cases hr
        exact .of (ih h1 (by simp only [lenJ, List.length_nil]; omega) noK).nd hB
       ·cases hr
      ·split at hr
       ·cases hr; exact .of (wide0 B _ _ _ _) hB
       ·cases hr; exact hz
  | args qs =>
   have hq : ∀ y ∈ qs, Wide B y := hj
   simp only [lenJ] at hf
   rw [run] at hr
   split at hr
   ·cases hr; exact ⟨by omega, hq⟩
   ·split at hr
    ·rename_i x s3 h1
     have hx := (ih h1 (by simp only [lenJ]; omega) noK).one
     have hl : f + (qs ++ [x]).length ≤ B := by rw [List.length_append, List.length_singleton]; omega
     split at hr
     ·split at hr
      ·exact ih hr hl (WideL.snoc hq hx)
      ·exact ih hr hl (WideL.snoc hq hx)
     ·cases hr; exact ⟨by omega, WideL.snoc hq hx⟩
    ·cases hr
  | block =>
   simp only [lenJ] at hf
   rw [run] at hr
   split at hr
   ·cases hr; exact hz
   ·split at hr
    ·rename_i qs s3 h1
     cases hr
     exact .of (ih h1 (by simp only [lenJ, List.length_nil]; omega) noK).nd hB
    ·cases hr
  | blockL qs =>
   have hq : ∀ y ∈ qs, Wide B y := hj
   simp only [lenJ] at hf
   rw [run] at hr
   split at hr
   ·cases hr; exact ⟨by omega, hq⟩
   ·split at hr
    ·cases hr; exact ⟨by omega, hq⟩
    ·split at hr
     ·rename_i x s3 h1
      have hx := (ih h1 (by simp only [lenJ]; omega) noK).one
      have hl : f + (qs ++ [x]).length ≤ B := by rw [List.length_append, List.length_singleton]; omega
      exact ih hr hl (WideL.snoc hq hx)
     ·cases hr
  | stmt =>
   simp only [lenJ] at hf
   have h0 : ∀ {j s ks s2}, lenJ j = 0 → jobK j = [] → run E f j s = some (ks, s2) → WideL B ks := fun {j s ks s2} hl hk h => ih0 j s ks s2 (by omega) (by rw [hk]; exact noK) h
   rw [run] at hr
   split at hr
   ·split at hr
    ·rename_i x s3 h1
     cases hr
     exact .of (h0 rfl rfl h1).nd hB
    ·cases hr
   ·split at hr
    ·split at hr
     ·rename_i c s3 h1
      have hc := (h0 rfl rfl h1).one
      split at hr
      ·rename_i b s4 h2
       have hb := (h0 rfl rfl h2).one
       split at hr
       ·split at hr
        ·rename_i o s5 h3
         have ho := h0 rfl rfl h3
         cases hr
         exact .of (WideL.cons hc (.cons hb ho (by simp; omega)) (by simp; omega)).nd hB
        ·cases hr
       ·cases hr
        exact .of (WideL.cons hc (.cons hb (.of (wide0 B _ _ _ _) hB) (by simp; omega)) (by simp; omega)).nd hB
      ·cases hr
     ·cases hr
    ·split at hr
     ·split at hr
      ·rename_i c s3 h1
       have hc := (h0 rfl rfl h1).one
       split at hr
       ·rename_i b s4 h2
        have hb := h0 rfl rfl h2
        cases hr
        exact .of (WideL.cons hc hb (by simp; omega)).nd hB
       ·cases hr
      ·cases hr
     ·split at hr
      ·split at hr
       ·rename_i x s3 h1
        cases hr
        exact .of (h0 rfl rfl h1).nd hB
       ·cases hr
      ·cases hr; exact .of (wide0 B _ _ _ _) hB
theorem step_wide (E : PE) (B f : Nat) (hB : 3 ≤ B) (hf : f ≤ B) {s s2 : PS} {x : Nd} (hr : stepR E f s = some (x, s2)) : Wide B x := by
 unfold stepR at hr
 split at hr
 ·cases hr
  have h1 : Wide B (named E wFrom (tk E s).at' (pText E (pText E (inc (sT E s))).2).2).1 := by
   unfold named; split <;> exact wide0 B _ _ _ _
  exact (WideL.cons (wide0 B _ _ _ _) (.of h1 hB) (by simp; omega)).nd
 ·split at hr
  ·split at hr
   ·rename_i b s3 h1
    cases hr
    exact (run_wide E B hB f .block _ _ _ (by simp only [lenJ]; omega) noK h1).nd
   ·cases hr
  ·split at hr
   ·cases hr; exact wide0 B _ _ _ _
   ·cases hr; exact wide0 B _ _ _ _
theorem steps_wide (E : PE) (B f : Nat) (hB : 3 ≤ B) (hf : f ≤ B) (m : Nat) : ∀ (qs ks : List Nd) (s s2 : PS), m + qs.length ≤ B → (∀ y ∈ qs, Wide B y) → stepsR E f m qs s = some (ks, s2) → WideL B ks := by
 induction m with
 | zero => intro qs ks s s2 _ _ hr; cases hr
 | succ m ih =>
  intro qs ks s s2 hl hq hr
  rw [stepsR] at hr
  split at hr
  ·cases hr; exact ⟨by omega, hq⟩
  ·split at hr
   ·cases hr; exact ⟨by omega, hq⟩
   ·split at hr
    ·rename_i x s3 h1
     exact ih _ _ _ _ (by rw [List.length_append, List.length_singleton]; omega) (WideL.snoc hq (step_wide E B f hB hf h1)) hr
    ·cases hr
theorem stage_wide (E : PE) (B f n : Nat) (hB : 3 ≤ B) (hf : f ≤ B) (hn : n + 1 ≤ B) {s s2 : PS} {x : Nd} (hr : stageR E f n s = some (x, s2)) : Wide B x := by
 unfold stageR at hr
 split at hr
 ·split at hr
  ·rename_i ks s3 h1
   cases hr
   refine (steps_wide E B f hB hf n _ _ _ _ (by simp; omega) (fun y hy => ?_) h1).nd
   rw [List.mem_singleton] at hy
   subst hy
   unfold named; split <;> exact wide0 B _ _ _ _
  ·cases hr
 ·cases hr; exact wide0 B _ _ _ _
theorem stages_wide (E : PE) (B f n : Nat) (hB : 3 ≤ B) (hf : f ≤ B) (hn : n + 1 ≤ B) (m : Nat) : ∀ (qs ks : List Nd) (s s2 : PS), m + qs.length ≤ B → (∀ y ∈ qs, Wide B y) → stagesR E f n m qs s = some (ks, s2) → WideL B ks := by
 induction m with
 | zero => intro qs ks s s2 _ _ hr; cases hr
 | succ m ih =>
  intro qs ks s s2 hl hq hr
  rw [stagesR] at hr
  split at hr
  ·cases hr; exact ⟨by omega, hq⟩
  ·split at hr
   ·cases hr; exact ⟨by omega, hq⟩
   ·split at hr
    ·rename_i x s3 h1
     exact ih _ _ _ _ (by rw [List.length_append, List.length_singleton]; omega) (WideL.snoc hq (stage_wide E B f n hB hf hn h1)) hr
    ·cases hr
theorem recipe_wide (E : PE) (B f n m : Nat) (hB : 3 ≤ B) (hf : f ≤ B) (hn : n + 1 ≤ B) (hm : m + 1 ≤ B) {s s2 : PS} {x : Nd} (hr : recipeR E f n m s = some (x, s2)) : Wide B x := by
 unfold recipeR at hr
 split at hr
 ·rename_i y s3 h1
  split at hr
  ·rename_i ks s4 h2
   cases hr
   refine (stages_wide E B f n hB hf hn m _ _ _ _ (by simp; omega) (fun z hz => ?_) h2).nd
   rw [List.mem_singleton] at hz
   subst hz
   exact stage_wide E B f n hB hf hn h1
  ·cases hr
 ·cases hr
end Go.Proofs.YtkcgldpedfafpaaGreat.par

namespace Go.Proofs.YtkcgldpedfafpaaGreat.par
open Go.RowKit
open heap
open lex (Tk TRow TkAt run_store_float add0)
set_option linter.unusedVariables false
set_option linter.unusedSimpArgs false
set_option maxRecDepth 100000
attribute [local go_sem] run_store_float

def markN : Nd := .mk 777 [] 0 [] 0
/-- A list of nodes with one more node behind, d deep; S: its blocks. -/
def LV (T : TypeId) (w : World) : Nat → List Nd → Value → List Nat → Prop
 | 0, _, _, _ => False
 | d + 1, xs, v, S => ∃ (g : Nat) (cs : List Value) (Ss : List (List Nat)), v = .slice (some ⟨g, 0, none⟩) xs.length (xs.length + 1) ∧ cs.length = xs.length ∧ Ss.length = xs.length ∧
   w.ownsRow 0 T 5 (.slice (some ⟨g, 0, none⟩) (xs.length + 1) (xs.length + 1)) (xs.length + 1) (rowC xs cs ++ ndC markN (.slice none 0 0)) ∧ S = g :: Ss.flatten ∧ g ∉ Ss.flatten ∧
   ∀ (i : Nat) (x : Nd) (c : Value) (s : List Nat), xs[i]? = some x → cs[i]? = some c → Ss[i]? = some s → LV T w d x.kids c s
theorem own_pre {T : TypeId} {w : World} {b g n cap : Nat} {l r : List Value} (h : w.ownsRow b T 5 (.slice (some ⟨g, 0, none⟩) (n + 1) cap) (n + 1) (l ++ r)) (hl : l.length = n * 5) : w.ownsRow b T 5 (.slice (some ⟨g, 0, none⟩) n cap) n l := by
 obtain ⟨h1, h2 | ⟨g', c', cur, e, hb, hg, hn, hm, hs, ht⟩⟩ := h
 ·exact absurd h2.1 (by simp)
 ·cases e
  refine ⟨hl, .inr ⟨g, cap, cur, rfl, hb, hg, by omega, hm, hs, ?_⟩⟩
  have : cur.toList.take (n * 5) = (cur.toList.take ((n + 1) * 5)).take (n * 5) := by
   rw [List.take_take]
   congr 1
   omega
  rw [this, ht, List.take_left' hl]
theorem LV.kv {T : TypeId} {w : World} : ∀ (d : Nat) {xs : List Nd} {v : Value} {S : List Nat}, LV T w d xs v S → KV T w d xs v S
 | 0, _, _, _, h => h.elim
 | d + 1, xs, v, S, h => by
  obtain ⟨g, cs, Ss, rfl, h1, h2, h3, rfl, h5, h6⟩ := h
  refine ⟨cs, Ss, h1, h2, own_pre h3 (rowC_len xs cs h1), rfl, fun b hb => ?_, fun i x c s hx hc hs => LV.kv d (h6 i x c s hx hc hs)⟩
  have : b = g := by simpa [Value.ownBlock] using hb
  rw [this]; exact h5
theorem LV.kept {T : TypeId} {w w' : World} : ∀ (d : Nat) {xs : List Nd} {v : Value} {S : List Nat}, LV T w d xs v S → (∀ b ∈ S, w'.heap[b]? = w.heap[b]?) → LV T w' d xs v S
 | 0, _, _, _, h, _ => h.elim
 | d + 1, xs, v, S, h, hk => by
  obtain ⟨g, cs, Ss, hv, h1, h2, h3, rfl, h5, h6⟩ := h
  refine ⟨g, cs, Ss, hv, h1, h2, own_kept h3 (fun b hb => hk b ?_), rfl, h5, fun i x c s hx hc hs => ?_⟩
  ·have : b = g := by simpa [Value.ownBlock] using hb
   rw [this]; exact List.mem_cons_self ..
  ·refine (h6 i x c s hx hc hs).kept d (fun b hb => hk b (List.mem_cons_of_mem _ ?_))
   exact List.mem_flatten.2 ⟨s, List.mem_of_getElem? hs, hb⟩
theorem LV.lt {T : TypeId} {w : World} {d : Nat} {xs : List Nd} {v : Value} {S : List Nat} (h : LV T w d xs v S) : ∀ b ∈ S, b < w.heap.size := KV.lt d h.kv
theorem LV.below {T : TypeId} {w w' : World} {d : Nat} {xs : List Nd} {v : Value} {S : List Nat} (h : LV T w d xs v S) (hb : Below w.heap.size w w') : LV T w' d xs v S := h.kept d (fun b hm => hb.block b (h.lt b hm))
theorem LV.turned {T : TypeId} {w w' : World} {d : Nat} {R : List Nat} {xs : List Nd} {v : Value} {S : List Nat} (h : LV T w d xs v S) (ht : Turned R w w') (hd : ∀ b ∈ S, b ∉ R) : LV T w' d xs v S := h.kept d (fun b hm => ht.block b (h.lt b hm) (hd b hm))
theorem LV.slice {T : TypeId} {w : World} : ∀ (d : Nat) {xs : List Nd} {v : Value} {S : List Nat}, LV T w d xs v S → ∃ g, v = .slice (some ⟨g, 0, none⟩) xs.length (xs.length + 1)
 | 0, _, _, _, h => h.elim
 | d + 1, xs, v, S, h => by obtain ⟨g, cs, Ss, hv, _⟩ := h; exact ⟨g, hv⟩
/-- The list while it is made. -/
def LF (T : TypeId) (w : World) (d : Nat) (xs : List Nd) (g cap : Nat) (S : List Nat) : Prop :=
 ∃ (cs : List Value) (Ss : List (List Nat)), cs.length = xs.length ∧ Ss.length = xs.length ∧ w.ownsRow 0 T 5 (.slice (some ⟨g, 0, none⟩) xs.length cap) xs.length (rowC xs cs) ∧ S = Ss.flatten ∧ g ∉ S ∧
  ∀ (i : Nat) (x : Nd) (c : Value) (s : List Nat), xs[i]? = some x → cs[i]? = some c → Ss[i]? = some s → LV T w d x.kids c s
theorem LF.gone {T : TypeId} {w : World} {d : Nat} {xs : List Nd} {g cap : Nat} {S : List Nat} (h : LF T w d xs g cap S) : g < w.heap.size := by
 obtain ⟨cs, Ss, _, _, h3, _⟩ := h
 exact (World.ownsRow.lt h3 g rfl).2
theorem LF.lt {T : TypeId} {w : World} {d : Nat} {xs : List Nd} {g cap : Nat} {S : List Nat} (h : LF T w d xs g cap S) : ∀ b ∈ S, b < w.heap.size := by
 obtain ⟨cs, Ss, h1, h2, h3, rfl, h5, h6⟩ := h
 intro b hb
 obtain ⟨s, hs, hbs⟩ := List.mem_flatten.1 hb
 obtain ⟨i, hi, rfl⟩ := List.getElem_of_mem hs
 exact (h6 i _ _ _ (List.getElem?_eq_getElem (by omega)) (List.getElem?_eq_getElem (by omega)) (List.getElem?_eq_getElem hi)).lt b hbs
theorem LF.below {T : TypeId} {w w' : World} {d : Nat} {xs : List Nd} {g cap : Nat} {S : List Nat} (h : LF T w d xs g cap S) (hb : Below w.heap.size w w') : LF T w' d xs g cap S := by
 have hl := h.gone
 obtain ⟨cs, Ss, h1, h2, h3, h4, h5, h6⟩ := h
 refine ⟨cs, Ss, h1, h2, own_kept h3 (fun b hm => hb.block b ?_), h4, h5, fun i x c s hx hc hs => (h6 i x c s hx hc hs).below hb⟩
 have : b = g := by simpa [Value.ownBlock] using hm
 rw [this]; exact hl
theorem stay_append (W : World) (g n cap h : Nat) (l : List Value) (x : Nd) (c : Value) (hown : W.ownsRow 0 25 5 (.slice (some ⟨g, 0, none⟩) n cap) n l) (hroom : n + 1 ≤ cap) (hn : n ≤ 2000000) (hh : W.heap[h]? = some (ndO x c)) (hc : ∃ a m k, c = .slice a m k) :
  ∃ W2, (Builtin.append_ #[23, 23] 23 #[.slice (some ⟨g, 0, none⟩) n cap, .slice (some ⟨h, 0, none⟩) 1 1]).run Tryz.prog W = .ok (.slice (some ⟨g, 0, none⟩) (n + 1) cap) W2 ∧
   W2.ownsRow 0 25 5 (.slice (some ⟨g, 0, none⟩) (n + 1) cap) (n + 1) (l ++ ndC x c) ∧ Turned [g] W W2 := by
 obtain ⟨i0, hi, hz0, hz1, hz2⟩ := info_parts infoN
 have hne : ∀ j u, (ndC x c)[j]? = some u → W.cell? ((⟨h, 0, none⟩ : Addr).add j) = some u := fun j u hu => by rw [add0, blk_cell hh]; simpa [ndC] using hu
 obtain ⟨v2, W2, h1, h2, h3, _, _⟩ := run_append_own_at (P := Tryz.prog) (w := W) 0 23 23 25 i0 _ 5 64 Tryz.underlying23 hi hz0 hz1 hz2 rfl (by decide) (.slice (some ⟨g, 0, none⟩) n cap) n l hown ⟨h, 0, none⟩ 1 1 (ndC x c) rfl hne (ndC_one _ _ hc) (by unfold maxLen; omega) (by omega) (Nat.zero_le _)
 obtain ⟨_, h0 | ⟨g', c', cur, e, _, hg, _, hm, hs, ht⟩⟩ := hown
 ·exact absurd h0.1 (by simp)
 ·cases e
  have hr := run_append_room (P := Tryz.prog) W 23 23 25 i0 Tryz.underlying23 hi g n cap cur hg ⟨h, 0, none⟩ 1 1 (ndC x c) (by rw [hz1]; rfl) hne (ndC_one _ _ hc) hroom (by rw [hz1, hs]; show n * 5 + 5 ≤ cap * 5; omega)
  rw [hr] at h1
  cases h1
  exact ⟨_, hr, h2, ⟨h3.os, h3.tape, h3.output, h3.size, fun b hb hn => h3.block b hb (fun e => hn (by
   have : b = g := by simpa [Value.ownBlock] using e
   simp [this]))⟩⟩
theorem LF.snoc {W : World} {d : Nat} {xs : List Nd} {g cap h : Nat} {S s : List Nat} {x : Nd} {c : Value} (hf : LF 25 W d xs g cap S) (hx : LV 25 W d x.kids c s) (hg : g ∉ s) (hroom : xs.length + 1 ≤ cap) (hn : xs.length ≤ 2000000) (hh : W.heap[h]? = some (ndO x c)) :
  ∃ W2, (Builtin.append_ #[23, 23] 23 #[.slice (some ⟨g, 0, none⟩) xs.length cap, .slice (some ⟨h, 0, none⟩) 1 1]).run Tryz.prog W = .ok (.slice (some ⟨g, 0, none⟩) (xs.length + 1) cap) W2 ∧
   LF 25 W2 d (xs ++ [x]) g cap (S ++ s) ∧ Turned [g] W W2 := by
 have hsl := hx.slice
 obtain ⟨cs, Ss, h1, h2, h3, rfl, h5, h6⟩ := hf
 obtain ⟨W2, hr, ho, ht⟩ := stay_append W g xs.length cap h _ x c h3 hroom hn hh (by obtain ⟨q, rfl⟩ := hsl; exact ⟨_, _, _, rfl⟩)
 refine ⟨W2, hr, ⟨cs ++ [c], Ss ++ [s], by simp [h1], by simp [h2], ?_, by simp, by simp; exact ⟨by simpa using h5, hg⟩, fun i y e q hy he hq => ?_⟩, ht⟩
 ·rw [List.length_append, rowC_snoc xs cs x c h1]
  exact ho
 ·by_cases hi : i < xs.length
  ·rw [List.getElem?_append_left hi] at hy
   rw [List.getElem?_append_left (by omega)] at he hq
   refine (h6 i y e q hy he hq).turned ht (fun b hb hm => ?_)
   have : b = g := by simpa using hm
   subst this
   exact h5 (List.mem_flatten.2 ⟨q, List.mem_of_getElem? hq, hb⟩)
  ·have hi2 : i = xs.length := by
    have := (List.getElem?_eq_some_iff.1 hy).1
    simp at this; omega
   subst hi2
   rw [List.getElem?_append_right (Nat.le_refl _), Nat.sub_self] at hy
   rw [List.getElem?_append_right (by omega), h1, Nat.sub_self] at he
   rw [List.getElem?_append_right (by omega), h2, Nat.sub_self] at hq
   simp at hy he hq
   subst hy he hq
   exact hx.turned ht (fun b hb hm => by
    have : b = g := by simpa using hm
    subst this
    exact hg hb)
theorem LF.done {W : World} {d : Nat} {xs : List Nd} {g h : Nat} {S : List Nat} (hf : LF 25 W d xs g (xs.length + 1) S) (hn : xs.length ≤ 2000000) (hh : W.heap[h]? = some (ndO markN (.slice none 0 0))) :
  ∃ W2, (Builtin.append_ #[23, 23] 23 #[.slice (some ⟨g, 0, none⟩) xs.length (xs.length + 1), .slice (some ⟨h, 0, none⟩) 1 1]).run Tryz.prog W = .ok (.slice (some ⟨g, 0, none⟩) (xs.length + 1) (xs.length + 1)) W2 ∧
   LV 25 W2 (d + 1) xs (.slice (some ⟨g, 0, none⟩) xs.length (xs.length + 1)) (g :: S) ∧ Turned [g] W W2 := by
 obtain ⟨cs, Ss, h1, h2, h3, rfl, h5, h6⟩ := hf
 obtain ⟨W2, hr, ho, ht⟩ := stay_append W g xs.length (xs.length + 1) h _ markN (.slice none 0 0) h3 (Nat.le_refl _) hn hh ⟨_, _, _, rfl⟩
 refine ⟨W2, hr, ⟨g, cs, Ss, rfl, h1, h2, ho, rfl, h5, fun i y e q hy he hq => ?_⟩, ht⟩
 refine (h6 i y e q hy he hq).turned ht (fun b hb hm => ?_)
 have : b = g := by simpa using hm
 subst this
 exact h5 (List.mem_flatten.2 ⟨q, List.mem_of_getElem? hq, hb⟩)
def LendAt (d : Nat) : Prop := ∀ (x : Nd) (a : Option Addr) (n : Nat) (S : List Nat) (w : World), KV 25 w d x.kids (.slice a x.kids.length n) S → Wide 2000000 x →
 Calls Tryz.prog 7 #[ndV x (.slice a x.kids.length n)] w fun e w' => ∃ g S', e = .returned (ndV x (.slice (some ⟨g, 0, none⟩) x.kids.length (x.kids.length + 1))) ∧ LV 25 w' d x.kids (.slice (some ⟨g, 0, none⟩) x.kids.length (x.kids.length + 1)) S' ∧ (∀ b ∈ S', w.heap.size ≤ b) ∧ Below w.heap.size w w'
/-- Where LendTree's loop stands. -/
structure LI (w : World) (x : Nd) (v : Value) (d g i : Nat) (wr : World) : Prop where
 box : wr.heap[w.heap.size]? = some (ndO x v)
 res : wr.heap[w.heap.size + 1]? = some (ndO zero (.slice none 0 0))
 bel : Below w.heap.size w wr
 far : w.heap.size + 1 < g
 lf : ∃ S, LF 25 wr d (x.kids.take i) g (x.kids.length + 1) S ∧ ∀ b ∈ S, w.heap.size + 1 < b
set_option maxHeartbeats 2000000 in
theorem lend_step {d : Nat} (IH : LendAt d) : LendAt (d + 1) := by
 intro x a n S w hk hw
 obtain ⟨i0, hi, hz0, hz1, hz2⟩ := info_parts infoN
 have hl := hw.len
 have hmk : ∀ u : World, (Instr.makeSlice 23 (.int .i64 0) (.int .i64 ((x.kids.length : Int) + 1))).run Tryz.prog u =
   .ok (.slice (some ⟨u.heap.size, 0, none⟩) 0 (x.kids.length + 1)) (u.alloc (.cells (madeCells #[.int .i64 0, .string ⟨#[]⟩, .float .f64 0, .slice none 0 0, .int .i64 0] ((x.kids.length + 1) * 5)) 25)) := fun u => by
  have h := run_make (P := Tryz.prog) u 23 25 i0 _ Tryz.underlying23 hi hz0 .i64 .i64 0 ((x.kids.length : Int) + 1) (by omega) (by omega) (by rw [hz2]; omega) (by omega)
  rw [show ((x.kids.length : Int) + 1).toNat = x.kids.length + 1 from by omega] at h
  simpa [hz1, Value.cells] using h
 have HMS := size_madeCells #[.int .i64 0, .string ⟨#[]⟩, .float .f64 0, .slice none 0 0, .int .i64 0] ((x.kids.length + 1) * 5)
 generalize madeCells #[.int .i64 0, .string ⟨#[]⟩, .float .f64 0, .slice none 0 0, .int .i64 0] ((x.kids.length + 1) * 5) = C at *
 have HK := Lib.hid hk
 have HW := Lib.hid hw
 have HC := Lib.hid HMS
 clear hk hw hi hz0 hz1 hz2 HMS
 go_enter Tryz.func7, Tryz.ntmps7
 go_wp2_with fail
 have HI0 : Hid (LI w x (.slice a x.kids.length n) d (w.heap.size + 2) 0 (((w.alloc (ndO x (.slice a x.kids.length n))).alloc (ndO zero (.slice none 0 0))).alloc (.cells C 25 (0, 0)))) := by
  have e2 : (((w.alloc (ndO x (.slice a x.kids.length n))).alloc (ndO zero (.slice none 0 0)))).heap.size = w.heap.size + 2 := by simp
  have e1 : (w.alloc (ndO x (.slice a x.kids.length n))).heap.size = w.heap.size + 1 := by simp
  have hc := blk_new (((w.alloc (ndO x (.slice a x.kids.length n))).alloc (ndO zero (.slice none 0 0)))) (.cells C 25 (0, 0))
  rw [e2] at hc
  have hlf0 : LF 25 (((w.alloc (ndO x (.slice a x.kids.length n))).alloc (ndO zero (.slice none 0 0))).alloc (.cells C 25 (0, 0))) d [] (w.heap.size + 2) (x.kids.length + 1) [] :=
   ⟨[], [], rfl, rfl, ⟨rfl, .inr ⟨_, _, C, rfl, Nat.zero_le _, hc, Nat.zero_le _, by unfold maxLen; omega, HC.out, by simp [rowC]⟩⟩, rfl, by simp, fun i y c s hy => by simp at hy⟩
  have hr := blk_new (w.alloc (ndO x (.slice a x.kids.length n))) (ndO zero (.slice none 0 0))
  rw [e1] at hr
  exact ⟨blk_old (blk_old (blk_new _ _) _) _, blk_old hr _, (((Below.refl _ _).alloc (Nat.le_refl _) _).alloc (by simp) _).alloc (by simp; omega) _, by omega, ⟨[], by rw [List.take_zero]; exact hlf0, fun b hb => by simp at hb⟩⟩
 clear hmk HC
 go_loopg [3, 4] x.kids.length (fun kk v3 v4 wr => ∃ i : Nat, i + kk = x.kids.length ∧ v3 = .slice (some ⟨w.heap.size + 2, 0, none⟩) i (x.kids.length + 1) ∧ v4 = .int .i64 i ∧ Hid (LI w x (.slice a x.kids.length n) d (w.heap.size + 2) i wr))
 case atStart => exact ⟨0, by omega, rfl, rfl, HI0.out⟩
 case round =>
  clear HI0
  obtain ⟨i, hik, rfl, rfl, HL⟩ := hrel
  have q0 := blk_cell (HL.out.box) 0
  have q1 := blk_cell (HL.out.box) 1
  have q2 := blk_cell (HL.out.box) 2
  have q3 := blk_cell (HL.out.box) 3
  have q4 := blk_cell (HL.out.box) 4
  have qf0 := blk_free (HL.out.box) 0
  have qf1 := blk_free (HL.out.box) 1
  have qf2 := blk_free (HL.out.box) 2
  have qf3 := blk_free (HL.out.box) 3
  have qf4 := blk_free (HL.out.box) 4
  have ql := blk_lt (HL.out.box)
  simp only [List.getElem?_toArray, List.getElem?_cons_zero, List.getElem?_cons_succ] at q0 q1 q2 q3 q4
  by_cases hlt : i < x.kids.length
  ·cases gk with
   | zero => omega
   | succ gk =>
   have hy : x.kids[i]? = some x.kids[i] := List.getElem?_eq_getElem hlt
   generalize x.kids[i] = y at hy
   obtain ⟨g1, c1, s1, rfl, -, hg1, hcp1, hcp2, y0, y1, y2, y3, y4, hky, -⟩ := (HK.out.below HL.out.bel).kid hy
   obtain ⟨a2, n2, rfl⟩ := hky.slice
   have HIH := Lib.hid (IH y a2 n2 s1 wr hky (HW.out.kid y (List.mem_of_getElem? hy)))
   have HY := Lib.hid hy
   clear hky hy
   go_wp2_with fail
   refine HIH.out.mono ?_; rintro e w2 ⟨g2, S2, rfl, hlv, hS2, hb2⟩
   clear HIH
   obtain ⟨Sf, hlf, hSf⟩ := HL.out.lf
   have hlen : (x.kids.take i).length = i := by rw [List.length_take]; omega
   have hszw := HL.out.bel.size
   have hsz2 := hb2.size
   have hgr := hlf.gone
   have hfar := HL.out.far
   have hbo : Below w2.heap.size w2 (w2.alloc (ndO y (.slice (some ⟨g2, 0, none⟩) y.kids.length (y.kids.length + 1)))) := (Below.refl _ _).alloc (Nat.le_refl _) _
   obtain ⟨W4, hrun, hlf4, ht⟩ := LF.snoc ((hlf.below hb2).below hbo) (hlv.below hbo) (fun hm => by have := hS2 _ hm; omega) (by rw [hlen]; omega) (by rw [hlen]; omega) (blk_new w2 (ndO y (.slice (some ⟨g2, 0, none⟩) y.kids.length (y.kids.length + 1))))
   rw [hlen] at hrun
   have hb4 : Below w.heap.size w W4 := ((HL.out.bel.trans (hb2.mono hszw)).alloc (by omega) _).trans (ht.below (by simp; omega) (fun k hk => by simp at hk; omega))
   have HLI : Hid (LI w x (.slice (some ⟨g1, 0, none⟩) x.kids.length n) d (w.heap.size + 2) (i + 1) W4) := by
    refine ⟨ht.kept (blk_old (blk_below HL.out.box hb2) _) (by simp), ht.kept (blk_old (blk_below HL.out.res hb2) _) (by simp), hb4, hfar, ⟨Sf ++ S2, ?_, fun b hb => ?_⟩⟩
    ·rw [List.take_add_one, HY.out]; exact hlf4
    ·rcases List.mem_append.1 hb with hb | hb
     ·exact hSf b hb
     ·have := hS2 b hb; omega
   have HRUN := Lib.hid hrun
   clear hrun hlf4 ht hb4 hbo hlf hSf hlv hS2 hb2 hgr hfar hlen HL HY
   go_wp2_with (at_builtin; refine reg.wpList_append rfl rfl rfl rfl rfl HRUN.out ?_)
   go_roundg gk
   case rel => exact ⟨i + 1, by omega, rfl, by go_num, HLI.out⟩
   case measure => omega
  ·have hik2 : i = x.kids.length := by omega
   subst hik2
   obtain ⟨Sf, hlf, hSf⟩ := HL.out.lf
   rw [List.take_length] at hlf
   have hszw := HL.out.bel.size
   have hgr := hlf.gone
   have hfar := HL.out.far
   have hbo : Below wr.heap.size wr (wr.alloc (ndO markN (.slice none 0 0))) := (Below.refl _ _).alloc (Nat.le_refl _) _
   obtain ⟨W4, hrun, hlv, ht⟩ := LF.done (hlf.below hbo) hl (blk_new wr (ndO markN (.slice none 0 0)))
   have hb4 : Below w.heap.size w W4 := (HL.out.bel.alloc hszw _).trans (ht.below (by simp; omega) (fun k hk => by simp at hk; omega))
   have hbx : W4.heap[w.heap.size]? = some (ndO x (.slice a x.kids.length n)) := ht.kept (blk_old HL.out.box _) (by simp)
   have hrs : W4.heap[w.heap.size + 1]? = some (ndO zero (.slice none 0 0)) := ht.kept (blk_old HL.out.res _) (by simp)
   have HRUN := Lib.hid hrun
   have HLV := Lib.hid hlv
   have HB4 := Lib.hid hb4
   have HSF := Lib.hid hSf
   have HBX := Lib.hid hbx
   have HRS := Lib.hid hrs
   have p0 := blk_cell (hbx) 0
   have p1 := blk_cell (hbx) 1
   have p2 := blk_cell (hbx) 2
   have p3 := blk_cell (hbx) 3
   have p4 := blk_cell (hbx) 4
   have pf0 := blk_free (hbx) 0
   have pf1 := blk_free (hbx) 1
   have pf2 := blk_free (hbx) 2
   have pf3 := blk_free (hbx) 3
   have pf4 := blk_free (hbx) 4
   have pl := blk_lt (hbx)
   simp only [List.getElem?_toArray, List.getElem?_cons_zero, List.getElem?_cons_succ] at p0 p1 p2 p3 p4
   have r0 := blk_cell (hrs) 0
   have r1 := blk_cell (hrs) 1
   have r2 := blk_cell (hrs) 2
   have r3 := blk_cell (hrs) 3
   have r4 := blk_cell (hrs) 4
   have rf0 := blk_free (hrs) 0
   have rf1 := blk_free (hrs) 1
   have rf2 := blk_free (hrs) 2
   have rf3 := blk_free (hrs) 3
   have rf4 := blk_free (hrs) 4
   have rl := blk_lt (hrs)
   simp only [List.getElem?_toArray, List.getElem?_cons_zero, List.getElem?_cons_succ] at r0 r1 r2 r3 r4
   clear hrun hlv ht hb4 hbo hlf hSf hgr HL hbx hrs
   go_wp2_with (at_builtin; refine reg.wpList_append rfl rfl rfl rfl rfl HRUN.out ?_)
   have h5 := res5 (W := W4.setCell ⟨w.heap.size, 3, none⟩ (.slice (some ⟨w.heap.size + 2, 0, none⟩) x.kids.length (x.kids.length + 1))) (b := w.heap.size + 1) (by rw [blk_other (by omega)]; exact HRS.out) (.int .i64 x.kind) (.string ⟨x.text.toArray⟩) (.float .f64 x.num) (.slice (some ⟨w.heap.size + 2, 0, none⟩) x.kids.length (x.kids.length + 1)) (.int .i64 x.at')
   have ht5 : Turned [w.heap.size, w.heap.size + 1] W4 _ := ((Turned.refl _ W4).setCell (p := ⟨w.heap.size, 3, none⟩) (by simp) (.slice (some ⟨w.heap.size + 2, 0, none⟩) x.kids.length (x.kids.length + 1))).trans ((turned5 (W4.setCell ⟨w.heap.size, 3, none⟩ (.slice (some ⟨w.heap.size + 2, 0, none⟩) x.kids.length (x.kids.length + 1))) (w.heap.size + 1) (.int .i64 x.kind) (.string ⟨x.text.toArray⟩) (.float .f64 x.num) (.slice (some ⟨w.heap.size + 2, 0, none⟩) x.kids.length (x.kids.length + 1)) (.int .i64 x.at')).mono (by simp))
   generalize ((((((W4.setCell _ _).setCell _ _).setCell _ _).setCell _ _).setCell _ _).setCell _ _) = wf at h5 ht5 ⊢
   clear p0 p1 p2 p3 p4 pf0 pf1 pf2 pf3 pf4 pl
   clear r0 r1 r2 r3 r4 rf0 rf1 rf2 rf3 rf4 rl
   have z0 := blk_cell (h5) 0
   have z1 := blk_cell (h5) 1
   have z2 := blk_cell (h5) 2
   have z3 := blk_cell (h5) 3
   have z4 := blk_cell (h5) 4
   have zf0 := blk_free (h5) 0
   have zf1 := blk_free (h5) 1
   have zf2 := blk_free (h5) 2
   have zf3 := blk_free (h5) 3
   have zf4 := blk_free (h5) 4
   have zl := blk_lt (h5)
   simp only [List.getElem?_toArray, List.getElem?_cons_zero, List.getElem?_cons_succ] at z0 z1 z2 z3 z4
   clear h5
   refine bodyPost_ret (v := .agg #[.int .i64 x.kind, .string ⟨x.text.toArray⟩, .float .f64 x.num, .slice (some ⟨w.heap.size + 2, 0, none⟩) x.kids.length (x.kids.length + 1), .int .i64 x.at']) (by simp [results, Tryz.results7, go_sem, z0, z1, z2, z3, z4]) rfl ?_
   refine ⟨_, _, rfl, HLV.out.turned ht5 (fun b hb hm => ?_), fun b hb => ?_, HB4.out.trans (ht5.below HB4.out.size (fun k hk => by simp at hk; omega))⟩
   ·have hm : b = w.heap.size ∨ b = w.heap.size + 1 := by simpa using hm
    rcases List.mem_cons.1 hb with hb | hb
    ·omega
    ·have := HSF.out b hb; omega
   ·rcases List.mem_cons.1 hb with hb | hb
    ·omega
    ·have := HSF.out b hb; omega
theorem lend_all : ∀ d, LendAt d
 | 0 => fun x a n S w h => h.elim
 | d + 1 => lend_step (lend_all d)
theorem LendTree_any (d : Nat) (x : Nd) (a : Option Addr) (n : Nat) (S : List Nat) (w : World) (hk : KV 25 w d x.kids (.slice a x.kids.length n) S) (hw : Wide 2000000 x) :
  Calls Tryz.prog 7 #[ndV x (.slice a x.kids.length n)] w fun e w' => ∃ g S', e = .returned (ndV x (.slice (some ⟨g, 0, none⟩) x.kids.length (x.kids.length + 1))) ∧ LV 25 w' d x.kids (.slice (some ⟨g, 0, none⟩) x.kids.length (x.kids.length + 1)) S' ∧ (∀ b ∈ S', w.heap.size ≤ b) ∧ Below w.heap.size w w' := lend_all d x a n S w hk hw
end Go.Proofs.YtkcgldpedfafpaaGreat.par

namespace Go.Proofs.YtkcgldpedfafpaaGreat.par
open Go.RowKit
open heap
open lex (Tk TRow TkAt run_store_float add0)
set_option linter.unusedVariables false
set_option linter.unusedSimpArgs false
set_option maxRecDepth 100000
attribute [local go_sem] run_store_float

/-- The node behind the list. -/
theorem LV.mark {T : TypeId} {w : World} {d : Nat} {xs : List Nd} {g : Nat} {S : List Nat} (h : LV T w (d + 1) xs (.slice (some ⟨g, 0, none⟩) xs.length (xs.length + 1)) S) : w.cell? ⟨g, xs.length * 5, none⟩ = some (.int .i64 777) := by
 obtain ⟨g', cs, Ss, e, h1, h2, h3, -⟩ := h
 cases e
 have := h3.cells (g := g) rfl (xs.length * 5) (.int .i64 777) (by
  rw [List.getElem?_append_right (by rw [rowC_len xs cs h1]; exact Nat.le_refl _), rowC_len xs cs h1, Nat.sub_self]
  rfl)
 rwa [add0] at this
theorem LV.kid {T : TypeId} {w : World} {d : Nat} {xs : List Nd} {g : Nat} {S : List Nat} (h : LV T w (d + 1) xs (.slice (some ⟨g, 0, none⟩) xs.length (xs.length + 1)) S) {i : Nat} {x : Nd} (hx : xs[i]? = some x) :
  ∃ g1 s, w.cell? ⟨g, i * 5, none⟩ = some (.int .i64 x.kind) ∧ w.cell? ⟨g, i * 5 + 1, none⟩ = some (.string ⟨x.text.toArray⟩) ∧ w.cell? ⟨g, i * 5 + 2, none⟩ = some (.float .f64 x.num) ∧
   w.cell? ⟨g, i * 5 + 3, none⟩ = some (.slice (some ⟨g1, 0, none⟩) x.kids.length (x.kids.length + 1)) ∧ w.cell? ⟨g, i * 5 + 4, none⟩ = some (.int .i64 x.at') ∧ LV T w d x.kids (.slice (some ⟨g1, 0, none⟩) x.kids.length (x.kids.length + 1)) s := by
 have hk := h.kv
 obtain ⟨g', cs, Ss, e, h1, h2, h3, -, -, h6⟩ := h
 cases e
 have hix := (List.getElem?_eq_some_iff.1 hx).1
 have hic : i < cs.length := by omega
 have his : i < Ss.length := by omega
 have hkid := h6 i x _ _ hx (List.getElem?_eq_getElem hic) (List.getElem?_eq_getElem his)
 have hget := rowC_get xs cs i x _ hx (List.getElem?_eq_getElem hic)
 obtain ⟨g1, e1⟩ := hkid.slice
 rw [e1] at hkid hget
 have hp := own_pre h3 (rowC_len xs cs h1)
 have k0 := hp.cells (g := g) rfl _ _ hget.1
 have k1 := hp.cells (g := g) rfl _ _ hget.2.1
 have k2 := hp.cells (g := g) rfl _ _ hget.2.2.1
 have k3 := hp.cells (g := g) rfl _ _ hget.2.2.2.1
 have k4 := hp.cells (g := g) rfl _ _ hget.2.2.2.2
 rw [add0] at k0 k1 k2 k3 k4
 exact ⟨g1, _, k0, k1, k2, k3, k4, hkid⟩
/-- Where KeptTree stands. -/
structure KI (w : World) (x : Nd) (v1 v2 : Value) (wr : World) : Prop where
 b1 : wr.heap[w.heap.size]? = some (ndO x v1)
 b2 : wr.heap[w.heap.size + 1]? = some (ndO x v2)
 bel : Below w.heap.size w wr
theorem KI.drew {w wr : World} {x : Nd} {v1 v2 : Value} (h : KI w x v1 v2 wr) : KI w x v1 v2 wr.drew := ⟨h.b1, h.b2, h.bel.drew⟩
theorem KI.below {w wr w2 : World} {x : Nd} {v1 v2 : Value} (h : KI w x v1 v2 wr) (hb : Below wr.heap.size wr w2) : KI w x v1 v2 w2 := ⟨blk_below h.b1 hb, blk_below h.b2 hb, h.bel.trans (hb.mono h.bel.size)⟩
def KeptAt (d : Nat) : Prop := ∀ (x : Nd) (a : Option Addr) (n g : Nat) (S S' : List Nat) (w : World), LV 25 w d x.kids (.slice (some ⟨g, 0, none⟩) x.kids.length (x.kids.length + 1)) S' → KV 25 w d x.kids (.slice a x.kids.length n) S → x.kids.length ≤ 2000000 → Wide 2000000 x →
 Calls Tryz.prog 11 #[ndV x (.slice (some ⟨g, 0, none⟩) x.kids.length (x.kids.length + 1)), ndV x (.slice a x.kids.length n)] w fun e w' => e = .returned (.bool true) ∧ Below w.heap.size w w'
set_option maxHeartbeats 2000000 in
theorem kept_step {d : Nat} (IH : KeptAt d) : KeptAt (d + 1) := by
 intro x a n g S S' w hl hk hlen hw
 have HL := Lib.hid hl
 have HK := Lib.hid hk
 have HW := Lib.hid hw
 have HM := Lib.hid (fun (W : World) (h : Below w.heap.size w W) => (hl.below h).mark)
 have hgl : g < w.heap.size := World.block_lt_of_cell? w _ hl.mark
 clear hl hk hw
 go_enter Tryz.func11, Tryz.ntmps11
 go_wp2_with fail
 change Code.wp _ _ _ _ ((w.alloc (ndO x (.slice (some ⟨g, 0, none⟩) x.kids.length (x.kids.length + 1)))).alloc (ndO x (.slice a x.kids.length n)))
 have HI : Hid (KI w x (.slice (some ⟨g, 0, none⟩) x.kids.length (x.kids.length + 1)) (.slice a x.kids.length n) ((w.alloc (ndO x (.slice (some ⟨g, 0, none⟩) x.kids.length (x.kids.length + 1)))).alloc (ndO x (.slice a x.kids.length n)))) := by
  have hr := blk_new (w.alloc (ndO x (.slice (some ⟨g, 0, none⟩) x.kids.length (x.kids.length + 1)))) (ndO x (.slice a x.kids.length n))
  rw [show (w.alloc (ndO x (.slice (some ⟨g, 0, none⟩) x.kids.length (x.kids.length + 1)))).heap.size = w.heap.size + 1 by simp] at hr
  exact ⟨blk_old (blk_new _ _) _, hr, ((Below.refl _ _).alloc (Nat.le_refl _) _).alloc (by simp) _⟩
 generalize ((w.alloc (ndO x (.slice (some ⟨g, 0, none⟩) x.kids.length (x.kids.length + 1)))).alloc (ndO x (.slice a x.kids.length n))) = w2 at *
 have p0 := blk_cell (HI.out.b1) 0
 have p1 := blk_cell (HI.out.b1) 1
 have p2 := blk_cell (HI.out.b1) 2
 have p3 := blk_cell (HI.out.b1) 3
 have p4 := blk_cell (HI.out.b1) 4
 have pf0 := blk_free (HI.out.b1) 0
 have pf1 := blk_free (HI.out.b1) 1
 have pf2 := blk_free (HI.out.b1) 2
 have pf3 := blk_free (HI.out.b1) 3
 have pf4 := blk_free (HI.out.b1) 4
 have pl := blk_lt (HI.out.b1)
 simp only [List.getElem?_toArray, List.getElem?_cons_zero, List.getElem?_cons_succ] at p0 p1 p2 p3 p4
 have q0 := blk_cell (HI.out.b2) 0
 have q1 := blk_cell (HI.out.b2) 1
 have q2 := blk_cell (HI.out.b2) 2
 have q3 := blk_cell (HI.out.b2) 3
 have q4 := blk_cell (HI.out.b2) 4
 have qf0 := blk_free (HI.out.b2) 0
 have qf1 := blk_free (HI.out.b2) 1
 have qf2 := blk_free (HI.out.b2) 2
 have qf3 := blk_free (HI.out.b2) 3
 have qf4 := blk_free (HI.out.b2) 4
 have ql := blk_lt (HI.out.b2)
 simp only [List.getElem?_toArray, List.getElem?_cons_zero, List.getElem?_cons_succ] at q0 q1 q2 q3 q4
 have hm := HM.out w2 HI.out.bel
 clear HM
 have hwi : IntKind.i64.wrap ((x.kids.length : Int) + 1) = (x.kids.length : Int) + 1 := IntWalk.i64_in _ (by omega)
 have hz0 : (0 : Int) ≤ (x.kids.length : Int) + 1 := by omega
 have hii : (x.kids.length : Int) < (x.kids.length : Int) + 1 := by omega
 go_still (by kernel_rfl)
 change Exit.then _ _ Exit.normal _ w2.drew
 have HI2 := Lib.hid HI.out.drew
 clear hwi hz0 hii hm
 clear p0 p1 p2 p3 p4 pf0 pf1 pf2 pf3 pf4 pl
 clear q0 q1 q2 q3 q4 qf0 qf1 qf2 qf3 qf4 ql
 go_wp2_with fail
 go_loopg [5] x.kids.length (fun kk v5 wr => ∃ i : Nat, i + kk = x.kids.length ∧ v5 = .int .i64 i ∧ Hid (KI w x (.slice (some ⟨g, 0, none⟩) x.kids.length (x.kids.length + 1)) (.slice a x.kids.length n) wr))
 case atStart => exact ⟨0, by omega, rfl, HI2.out⟩
 case round =>
  clear HI HI2
  obtain ⟨i, hik, rfl, HJ⟩ := hrel
  have p0 := blk_cell (HJ.out.b1) 0
  have p1 := blk_cell (HJ.out.b1) 1
  have p2 := blk_cell (HJ.out.b1) 2
  have p3 := blk_cell (HJ.out.b1) 3
  have p4 := blk_cell (HJ.out.b1) 4
  have pf0 := blk_free (HJ.out.b1) 0
  have pf1 := blk_free (HJ.out.b1) 1
  have pf2 := blk_free (HJ.out.b1) 2
  have pf3 := blk_free (HJ.out.b1) 3
  have pf4 := blk_free (HJ.out.b1) 4
  have pl := blk_lt (HJ.out.b1)
  simp only [List.getElem?_toArray, List.getElem?_cons_zero, List.getElem?_cons_succ] at p0 p1 p2 p3 p4
  have q0 := blk_cell (HJ.out.b2) 0
  have q1 := blk_cell (HJ.out.b2) 1
  have q2 := blk_cell (HJ.out.b2) 2
  have q3 := blk_cell (HJ.out.b2) 3
  have q4 := blk_cell (HJ.out.b2) 4
  have qf0 := blk_free (HJ.out.b2) 0
  have qf1 := blk_free (HJ.out.b2) 1
  have qf2 := blk_free (HJ.out.b2) 2
  have qf3 := blk_free (HJ.out.b2) 3
  have qf4 := blk_free (HJ.out.b2) 4
  have ql := blk_lt (HJ.out.b2)
  simp only [List.getElem?_toArray, List.getElem?_cons_zero, List.getElem?_cons_succ] at q0 q1 q2 q3 q4
  by_cases hlt : i < x.kids.length
  ·cases gk with
   | zero => omega
   | succ gk =>
   have hy : x.kids[i]? = some x.kids[i] := List.getElem?_eq_getElem hlt
   generalize x.kids[i] = y at hy
   obtain ⟨g1, c1, s1, rfl, -, hg1, hcp1, hcp2, y0, y1, y2, y3, y4, hky, -⟩ := (HK.out.below HJ.out.bel).kid hy
   obtain ⟨a2, n2, rfl⟩ := hky.slice
   obtain ⟨g3, s3, z0, z1, z2, z3, z4, hlz⟩ := (HL.out.below HJ.out.bel).kid hy
   have hwy := HW.out.kid y (List.mem_of_getElem? hy)
   have HIH := Lib.hid (IH y a2 n2 g3 s1 s3 wr.drew (hlz.below (Below.refl _ _).drew) (hky.below (Below.refl _ _).drew) hwy.len hwy)
   clear hky hlz hwy hy
   go_wp2_with fail
   go_still_tail 10, (by kernel_rfl)
   change wpList _ _ _ _ _ wr.drew
   go_wp2_with fail
   refine HIH.out.mono ?_; rintro e w5 ⟨rfl, hb⟩
   have HJ2 := Lib.hid (HJ.out.drew.below hb)
   clear hb HIH HJ
   go_wp2_with fail
   go_roundg gk
   case rel => exact ⟨i + 1, by omega, by go_num, HJ2.out⟩
   case measure => omega
  ·have hik2 : i = x.kids.length := by omega
   subst hik2
   go_wp2_with fail
   (with_reducible refine (flt.same_one _ _).mono ?_); rintro e w' ⟨rfl, rfl⟩
   go_wp2_with fail
   go_ret
   exact ⟨rfl, HJ.out.bel⟩
theorem kept_all : ∀ d, KeptAt d
 | 0 => fun x a n g S S' w h => h.elim
 | d + 1 => kept_step (kept_all d)
end Go.Proofs.YtkcgldpedfafpaaGreat.par
