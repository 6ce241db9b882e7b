/-
  Proved: what the document's checker's table of functions: Functions. Conditions: as each theorem says.
-/
import Derived.Test.YtkcgldpedfafpaaGreatPr32
import Derived.Test.YtkcgldpedfafpaaGreatPr33
namespace Go.Proofs.YtkcgldpedfafpaaGreat.rck
open Go.RowKit
open heap
open par (Nd KV ndV ndO)
open chk (Nm CS cflt)
open lex (run_store_float)
open many (fnL fnT)
open path (SRow sv)
set_option linter.unusedVariables false
set_option linter.unusedSimpArgs false
set_option maxRecDepth 100000
attribute [local go_sem] run_store_float

def fnK (i : Nat) : Int := [2, 3, 1, 4, 5, 6, 7, 8, 9, 10, 11, 12, 13, 14, 15, 16, 17, 18, 0, 0, 0, 0].getD i 0
def fnA : Array Value := ((List.range 22).flatMap fun i => [Value.string ⟨(fnL.getD i ([], 0)).1.toArray⟩, .int .i64 (fnL.getD i ([], 0)).2, .int .i64 (fnK i)]).toArray
theorem fnA_at (i : Nat) (z : Nm × Int) (h : fnL[i]? = some z) : fnA[i * 3]? = some (.string ⟨z.1.toArray⟩) ∧ fnA[i * 3 + 1]? = some (.int .i64 z.2) ∧ fnA[i * 3 + 2]? = some (.int .i64 (fnK i)) := by
 have hi : i < 22 := (List.getElem?_eq_some_iff.1 h).1
 have hc : i = 0 ∨ i = 1 ∨ i = 2 ∨ i = 3 ∨ i = 4 ∨ i = 5 ∨ i = 6 ∨ i = 7 ∨ i = 8 ∨ i = 9 ∨ i = 10 ∨ i = 11 ∨ i = 12 ∨ i = 13 ∨ i = 14 ∨ i = 15 ∨ i = 16 ∨ i = 17 ∨ i = 18 ∨ i = 19 ∨ i = 20 ∨ i = 21 := by omega
 rcases hc with rfl | rfl | rfl | rfl | rfl | rfl | rfl | rfl | rfl | rfl | rfl | rfl | rfl | rfl | rfl | rfl | rfl | rfl | rfl | rfl | rfl | rfl <;> (cases h; exact ⟨rfl, rfl, rfl⟩)
set_option maxHeartbeats 8000000 in
theorem Functions_any (w : World) : Calls Tryz.prog 54 #[] w fun e w' => e = .returned (.slice (some ⟨w.heap.size, 0, none⟩) 22 22) ∧ w'.heap[w.heap.size]? = some (.cells fnA 77 (0, 0)) ∧ Below w.heap.size w w' := by
 go_enter Tryz.func54, Tryz.ntmps54
 go_wp2_with fail
 go_ret
 exact ⟨rfl, (blk_new _ _).trans (by kernel_rfl), (Below.refl _ _).alloc (Nat.le_refl _) _⟩
theorem look_hit (t : Nm) : ∀ (l : List (Nm × Int)) (i : Nat) (z : Nm × Int), (∀ j, j < i → ∀ y, l[j]? = some y → (y.1 == t) = false) → l[i]? = some z → (z.1 == t) = true → (l.find? fun x => x.1 == t) = some z
 | [], i, z, _, h, _ => by simp at h
 | x :: l, 0, z, _, h, hz => by
  simp at h
  subst h
  rw [List.find?_cons, hz]
 | x :: l, i + 1, z, hn, h, hz => by
  rw [List.find?_cons, hn 0 (by omega) x rfl]
  exact look_hit t l i z (fun j hj y hy => hn (j + 1) (by omega) y (by simpa using hy)) (by simpa using h) hz
theorem look_miss (t : Nm) (l : List (Nm × Int)) (hn : ∀ j, j < l.length → ∀ y, l[j]? = some y → (y.1 == t) = false) : (l.find? fun x => x.1 == t) = none := by
 rw [List.find?_eq_none]
 intro y hy
 obtain ⟨j, hj, rfl⟩ := List.getElem_of_mem hy
 rw [hn j hj _ (List.getElem?_eq_getElem hj)]
 exact Bool.false_ne_true
end Go.Proofs.YtkcgldpedfafpaaGreat.rck
