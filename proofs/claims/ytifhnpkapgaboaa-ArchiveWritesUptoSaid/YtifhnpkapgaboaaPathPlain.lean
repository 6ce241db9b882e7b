/-
  Proved: plain facts on a path's pieces, names, clean paths. No program is in sight.
-/
namespace Go.Proofs.Ytifhnpkapgaboaa.path

/-- A path's pieces, cut at each 47. -/
def piecesL : List UInt8 → List (List UInt8)
  | [] => [[]]
  | c :: r => if c = 47 then [] :: piecesL r else match piecesL r with
    | [] => [[c]]
    | p :: ps => (c :: p) :: ps
theorem piecesL_ne (l : List UInt8) : piecesL l ≠ [] := by
  cases l with
  | nil => simp [piecesL]
  | cons c r =>
    unfold piecesL
    split
    · simp
    · split <;> simp
theorem pieces_no (l : List UInt8) (h : (47 : UInt8) ∉ l) : piecesL l = [l] := by
  induction l with
  | nil => rfl
  | cons c r ih =>
    rw [List.mem_cons, not_or] at h
    rw [piecesL, if_neg (fun e => h.1 e.symm), ih h.2]
theorem pieces_yes (a b : List UInt8) (h : (47 : UInt8) ∉ a) : piecesL (a ++ 47 :: b) = a :: piecesL b := by
  induction a with
  | nil => simp [piecesL]
  | cons c r ih =>
    rw [List.mem_cons, not_or] at h
    rw [List.cons_append, piecesL, if_neg (fun e => h.1 e.symm), ih h.2]
theorem cut_at (l : List UInt8) : (47 : UInt8) ∉ l ∨ ∃ a b, l = a ++ 47 :: b ∧ (47 : UInt8) ∉ a := by
  induction l with
  | nil => left; simp
  | cons c r ih =>
    by_cases hc : c = 47
    · subst hc; exact .inr ⟨[], r, rfl, by simp⟩
    · rcases ih with h | ⟨a, b, rfl, h⟩
      · left
        rw [List.mem_cons, not_or]
        exact ⟨fun e => hc e.symm, h⟩
      · right
        refine ⟨c :: a, b, rfl, ?_⟩
        rw [List.mem_cons, not_or]
        exact ⟨fun e => hc e.symm, h⟩
theorem pieces_bd (l : List UInt8) : (piecesL l).length ≤ l.length + 1 ∧ ∀ p ∈ piecesL l, p.length ≤ l.length ∧ (47 : UInt8) ∉ p := by
  induction l with
  | nil => simp [piecesL]
  | cons c r ih =>
    unfold piecesL
    split
    · refine ⟨by simp; omega, fun p hp => ?_⟩
      rcases List.mem_cons.1 hp with rfl | hp
      · simp
      · have := ih.2 p hp; exact ⟨by simp; omega, this.2⟩
    · rename_i hc
      split
      · rename_i h; exact absurd h (piecesL_ne r)
      · rename_i q qs h
        rw [h] at ih
        refine ⟨by have := ih.1; simp at this ⊢; omega, fun p hp => ?_⟩
        rcases List.mem_cons.1 hp with rfl | hp
        · have := ih.2 q (List.mem_cons_self ..)
          refine ⟨by simp; omega, ?_⟩
          rw [List.mem_cons, not_or]
          exact ⟨fun e => hc e.symm, this.2⟩
        · have := ih.2 p (List.mem_cons_of_mem _ hp)
          exact ⟨by simp; omega, this.2⟩
/-- Which fault a name has: 400, 401; none: 0. -/
def nameE (l : List UInt8) : Int := if l = [] then 400 else if l.length > 16 ∨ l = [46] ∨ l = [46, 46] ∨ (47 : UInt8) ∈ l ∨ (0 : UInt8) ∈ l then 401 else 0
def cleanB (l : List UInt8) : Bool := decide (l = []) || (decide (∀ p ∈ piecesL l, nameE p = 0) && decide ((piecesL l).length ≤ 8) && decide (l.length ≤ 140))
def partsL (l : List UInt8) : List (List UInt8) := if l = [] then [] else piecesL l
/-- One piece of a way. -/
def stepW (way : List (List UInt8)) (p : List UInt8) : Option (List (List UInt8)) :=
  if p = [] ∨ p = [46] then some way else if p = [46, 46] then some way.dropLast else if nameE p ≠ 0 then none else some (way ++ [p])
def wayW : List (List UInt8) → List (List UInt8) → Option (List (List UInt8))
  | way, [] => some way
  | way, p :: ps => match stepW way p with
    | none => none
    | some way' => wayW way' ps
theorem wayW_snoc (way ps : List (List UInt8)) (p : List UInt8) : wayW way (ps ++ [p]) = (wayW way ps).bind fun v => stepW v p := by
  induction ps generalizing way with
  | nil => simp only [List.nil_append, wayW, Option.bind_some]; cases stepW way p <;> rfl
  | cons q qs ih =>
    simp only [List.cons_append, wayW]
    cases stepW way q with
    | none => rfl
    | some v => exact ih v
def joinL (xs : List (List UInt8)) : List UInt8 := [47].intercalate xs
def startW (cwd s : List UInt8) : List (List UInt8) := if s.head? = some 47 then [] else partsL cwd
/-- What Clean gives. -/
def cleanR (cwd s : List UInt8) : List UInt8 × Int :=
  if cleanB cwd = false then ([], 401) else if s = [] then ([], 400) else if s.length > 560 then ([], 403) else
  match wayW (startW cwd s) (piecesL s) with
  | none => ([], 401)
  | some way => if way.length > 8 then ([], 402) else if (joinL way).length > 140 then ([], 403) else (joinL way, 0)
end Go.Proofs.Ytifhnpkapgaboaa.path
