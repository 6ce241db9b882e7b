/-
  Proved: plain facts on the tokens of a text. Conditions: as each theorem says. No program is in sight.
-/
import Derived.Test.YtjanpaallealgaaDoorFlt10
namespace Go.Proofs.YtjanpaallealgaaDoor.lex
open Go Go.RowKit
open flt (isD ofT)
set_option linter.unusedVariables false

def blankB (c : UInt8) : Bool := c == 32 || c == 9 || c == 10 || c == 13
def letB (c : UInt8) : Bool := (decide (97 ≤ c.toNat) && decide (c.toNat ≤ 122)) || (decide (65 ≤ c.toNat) && decide (c.toNat ≤ 90)) || c == 95
def wordB (c : UInt8) : Bool := letB c || isD c
def signB (c : UInt8) : Bool := [123, 125, 40, 41, 59, 44, 61, 60, 43, 45, 42, 47, 37, 38, 33].contains c
/-- How many bytes of blanks and comments stand ahead (true: within a comment). -/
def skp : Bool → List UInt8 → Nat
  | _, [] => 0
  | false, c :: r => if blankB c then skp false r + 1 else if c = 35 then skp true r + 1 else 0
  | true, c :: r => if c = 10 then skp false r + 1 else skp true r + 1
def runB (p : UInt8 → Bool) (l : List UInt8) : Nat := (l.takeWhile p).length
def escB (d : UInt8) : Option UInt8 := if d = 34 then some 34 else if d = 92 then some 92 else if d = 110 then some 10 else if d = 116 then some 9 else none
/-- Behind a quote: the text, and how many bytes up to behind the second quote (true: behind a backslash). -/
def qtS : Bool → List UInt8 → Option (List UInt8 × Nat)
  | _, [] => none
  | false, c :: r => if c = 34 then some ([], 1) else if c.toNat < 32 then none else if c = 92 then (qtS true r).map fun x => (x.1, x.2 + 1) else (qtS false r).map fun x => (c :: x.1, x.2 + 1)
  | true, d :: r => match escB d with
    | none => none
    | some e => (qtS false r).map fun x => (e :: x.1, x.2 + 1)
def numEnd (t : List UInt8) : Nat := if decide (runB isD t + 1 < t.length) && t.getD (runB isD t) 0 == 46 && isD (t.getD (runB isD t + 1) 0) then runB isD t + 1 + runB isD (t.drop (runB isD t + 1)) else runB isD t
structure Tk where
  kind : Int
  text : List UInt8
  num : Nat
  at' : Nat
deriving DecidableEq
/-- The token ahead: kind, text, number, length; or the error. -/
def tok (t : List UInt8) : Except Int (Int × List UInt8 × Nat × Nat) :=
  if letB (t.getD 0 0) then (if 32 < runB wordB t then .error 1800 else .ok (1, t.take (runB wordB t), 0, runB wordB t))
  else if isD (t.getD 0 0) then (match ofT (t.take (numEnd t)) with
    | none => .error 1802
    | some x => if decide (numEnd t < t.length) && (letB (t.getD (numEnd t) 0) || t.getD (numEnd t) 0 == 46) then .error 1802 else .ok (2, t.take (numEnd t), x, numEnd t))
  else if t.getD 0 0 = 34 then (match qtS false (t.drop 1) with
    | none => .error 1801
    | some x => if 1024 < x.1.length then .error 1801 else .ok (3, x.1, 0, x.2 + 1))
  else if t.getD 0 0 = 61 ∧ 1 < t.length ∧ t.getD 1 0 = 61 then .ok (4, [61, 61], 0, 2)
  else if signB (t.getD 0 0) then .ok (4, [t.getD 0 0], 0, 1)
  else .error 1800
/-- The tokens from a place on (no blanks ahead), the fault's place and error. -/
def scanF : Nat → List UInt8 → Nat → List Tk × Nat × Int
  | 0, _, _ => ([], 0, 0)
  | f + 1, t, a => if t = [] then ([⟨0, [], 0, a⟩], 0, 0) else match tok t with
    | .error e => ([], a, e)
    | .ok x => (⟨x.1, x.2.1, x.2.2.1, a⟩ :: (scanF f ((t.drop x.2.2.2).drop (skp false (t.drop x.2.2.2))) (a + x.2.2.2 + skp false (t.drop x.2.2.2))).1, (scanF f ((t.drop x.2.2.2).drop (skp false (t.drop x.2.2.2))) (a + x.2.2.2 + skp false (t.drop x.2.2.2))).2)
def scanL (l : List UInt8) : List Tk × Nat × Int := if 16384 < l.length then ([], 0, 1803) else scanF (l.length + 1) (l.drop (skp false l)) (skp false l)
theorem skp_le : ∀ (b : Bool) (l : List UInt8), skp b l ≤ l.length
  | _, [] => by simp [skp]
  | false, c :: r => by
    have h1 := skp_le false r
    have h2 := skp_le true r
    rw [skp, List.length_cons]
    split
    · omega
    · split <;> omega
  | true, c :: r => by
    have h1 := skp_le false r
    have h2 := skp_le true r
    rw [skp, List.length_cons]
    split <;> omega
theorem runB_le (p : UInt8 → Bool) (l : List UInt8) : runB p l ≤ l.length := by
  unfold runB
  exact (List.takeWhile_sublist p).length_le
theorem runB_pos {p : UInt8 → Bool} {t : List UInt8} (h : t ≠ []) (hp : p (t.getD 0 0) = true) : 1 ≤ runB p t := by
  cases t with
  | nil => exact absurd rfl h
  | cons c r =>
    have : p c = true := hp
    simp [runB, this]
theorem qt_le : ∀ (b : Bool) (l : List UInt8) (x : List UInt8 × Nat), qtS b l = some x → 1 ≤ x.2 ∧ x.2 ≤ l.length
  | _, [], x, h => by simp [qtS] at h
  | false, c :: r, x, h => by
    rw [qtS] at h
    split at h
    · cases h; simp
    · split at h
      · cases h
      · split at h
        · obtain ⟨y, hy, rfl⟩ := Option.map_eq_some_iff.1 h
          have := qt_le true r y hy
          simp; omega
        · obtain ⟨y, hy, rfl⟩ := Option.map_eq_some_iff.1 h
          have := qt_le false r y hy
          simp; omega
  | true, d :: r, x, h => by
    rw [qtS] at h
    split at h
    · cases h
    · obtain ⟨y, hy, rfl⟩ := Option.map_eq_some_iff.1 h
      have := qt_le false r y hy
      simp; omega
theorem numEnd_le (t : List UInt8) : numEnd t ≤ t.length := by
  unfold numEnd
  split
  · rename_i h
    simp only [Bool.and_eq_true, decide_eq_true_iff] at h
    have := runB_le isD (t.drop (runB isD t + 1))
    rw [List.length_drop] at this
    omega
  · exact runB_le _ _
theorem numEnd_pos {t : List UInt8} (h : t ≠ []) (hp : isD (t.getD 0 0) = true) : 1 ≤ numEnd t := by
  have := runB_pos (p := isD) h hp
  unfold numEnd
  split <;> omega
theorem tok_len {t : List UInt8} (h : t ≠ []) {x : Int × List UInt8 × Nat × Nat} (hx : tok t = .ok x) : 1 ≤ x.2.2.2 ∧ x.2.2.2 ≤ t.length := by
  have hl : 1 ≤ t.length := by cases t with
    | nil => exact absurd rfl h
    | cons _ _ => simp
  unfold tok at hx
  split at hx
  · rename_i hc
    split at hx
    · cases hx
    · cases hx
      exact ⟨runB_pos h (by unfold wordB; rw [hc]; rfl), runB_le _ _⟩
  · split at hx
    · rename_i hc
      split at hx
      · cases hx
      · split at hx
        · cases hx
        · cases hx
          exact ⟨numEnd_pos h hc, numEnd_le _⟩
    · split at hx
      · split at hx
        · cases hx
        · rename_i y hy
          split at hx
          · cases hx
          · cases hx
            have := qt_le false _ _ hy
            rw [List.length_drop] at this
            show 1 ≤ y.2 + 1 ∧ y.2 + 1 ≤ t.length
            omega
      · split at hx
        · rename_i h2
          cases hx
          exact ⟨Nat.le_succ 1, h2.2.1⟩
        · split at hx
          · cases hx; exact ⟨Nat.le_refl 1, hl⟩
          · cases hx
end Go.Proofs.YtjanpaallealgaaDoor.lex
