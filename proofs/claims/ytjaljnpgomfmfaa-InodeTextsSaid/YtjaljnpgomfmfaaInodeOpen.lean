/-
  Proved: what an api.Inode that comes in holds. Conditions: as each theorem says.
-/
import Derived.Test.YtjaljnpgomfmfaaInode13
import Derived.Deep.Slices
import Derived.Deep.Fields
import Derived.ChangeSame
import Derived.OpenShut
import Derived.SizedLaws
import Derived.Lib.SmallJoins
namespace Go.Proofs.Ytjaljnpgomfmfaa.inode
open Go.RowKit Go.ChangeShapes Go.WideShapes Go.Deep
set_option linter.unusedVariables false
section
variable {H : Type} {enc : TypeId × Value → H} {P : Program} {w : World} {base : Nat} {spare : Nat → Bool} {held : Bool}
/-- A field of a struct in memory that is a number. -/
theorem field_int {e : TypeId} {fs : Array Field} {C n : Nat} {A : Addr} {cs : List Value} {x : DataW H × List MemPlace} (he : P.underlying e = some (.struct fs)) (hone : oneCellFields P fs = true)
    (hc : w.cells? base A C = some cs) (ht : DataW.trod enc P w base spare held n e cs = some x) {j : Nat} {f : Field} {k : IntKind} (hj : fs[j]? = some f) (hk : P.underlying f.type = some (.int k)) (hC : j < C) :
    ∃ z, w.cell? (A.add j) = some (.int k z) ∧ (Lit.int k z).wf = true := by
  obtain ⟨_, hl, hat⟩ := World.cells?_some hc
  obtain ⟨ys, n', _, _, _, hyl, hf⟩ := DataW.trod_struct he ht
  obtain ⟨ho, h1⟩ := hone_of hone j f hj
  have h2 := hf j f hj
  rw [ho, h1] at h2
  have hjs : j < ys.length := by rw [hyl]; exact (Array.getElem?_eq_some_iff.1 hj).1
  rw [List.getElem?_eq_getElem hjs] at h2
  obtain ⟨z, hz, _, hwf⟩ := DataW.trod_int hk h2
  refine ⟨z, ?_, hwf⟩
  rw [hat j hC, ← List.head?_drop]
  have : ((cs.drop j).take 1).head? = some (.int k z) := by rw [hz]; rfl
  rw [← this]
  cases cs.drop j <;> rfl
end
theorem exts_open {H : Type} {enc : TypeId × Value → H} {w : World} {spare : Nat → Bool} {held : Bool} {v : Value} {fuel : Nat} {x : DataW H × List MemPlace}
    (h : DataW.trod enc Try.prog w 0 spare held fuel 71 [v] = some x) (hsz : (x.1.weights Try.prog 71).all (· ≤ reachBytes) = true) :
    ∃ (a : Option Addr) (n ca : Nat) (ex : Nat → Ext), v = .slice a n ca ∧ ExtsIn w a n ex ∧ (a = none → ca = 0) ∧ n * 16 ≤ 140737488351232 := by
  rcases open_slice Try.underlying71 h with ⟨h0, _⟩ | ⟨A, l, c, m, n, D, Pl, hcs, hb, hl, hm, hmm, hx, hi⟩
  · simp at h0
    exact ⟨none, 0, 0, fun _ => (0, 0), h0, fun h => by omega, fun _ => rfl, by omega⟩
  · simp at hcs
    have hml : l ≤ m := by rw [hmm]; split <;> omega
    have hC : Try.prog.cellsOf 41 = 2 := by kernel_rfl
    rw [hC] at hi
    have hB : Try.prog.bytesOf 41 = 16 := by kernel_rfl
    have key : ∀ i, ∃ s : Ext, i < l → w.cell? (A.add (i * 2)) = some (.int .i64 s.1) ∧ w.cell? (A.add (i * 2 + 1)) = some (.int .i64 s.2) := by
      intro i
      by_cases hil : i < l
      · obtain ⟨cs, hc, ht⟩ := hi i (by omega)
        obtain ⟨z0, e0, _⟩ := field_int Try.underlying41 (by kernel_rfl) hc ht (j := 0) rfl Try.underlying3 (by omega)
        obtain ⟨z1, e1, _⟩ := field_int Try.underlying41 (by kernel_rfl) hc ht (j := 1) rfl Try.underlying3 (by omega)
        rw [add_add] at e0 e1
        exact ⟨(z0, z1), fun _ => ⟨e0, e1⟩⟩
      · exact ⟨(0, 0), fun h => absurd h hil⟩
    obtain ⟨ex, hst⟩ := Classical.axiomOfChoice key
    refine ⟨some A, l, c, ex, hcs, fun hpos => ?_, (fun h => by cases h), ?_⟩
    · obtain ⟨b, off, spot⟩ := A
      have hspot : spot = none := by
        have := (hst 0 hpos).1
        simpa [Addr.add] using World.cell?_spot this
      subst hspot
      refine ⟨b, off, rfl, ?_, fun i hil => ?_⟩
      · have := (hst 0 hpos).1
        rw [addOff] at this
        exact World.block_lt_of_cell? w _ this
      · have := hst i hil
        rw [addOff, addOff] at this
        exact this
    · rw [hx] at hsz
      simp only [DataW.weights, Try.underlying71, hB, List.length_map, List.length_range, List.all_cons, Bool.and_eq_true, decide_eq_true_eq] at hsz
      have := hsz.1
      unfold reachBytes at this
      omega
end Go.Proofs.Ytjaljnpgomfmfaa.inode
