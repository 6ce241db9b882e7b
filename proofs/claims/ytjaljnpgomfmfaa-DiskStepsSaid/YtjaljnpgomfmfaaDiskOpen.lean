/-
  Proved: what a slice of oriellaw6.Step that comes in holds, cell by cell. Conditions: as each theorem says.
-/
import Derived.Test.YtjaljnpgomfmfaaDiskSteps2
import Derived.Deep.Slices
import Derived.Deep.Fields
import Derived.ChangeSame
import Derived.OpenShut
namespace Go.Proofs.Ytjaljnpgomfmfaa.disk
open Go.RowKit Go.ChangeShapes Go.WideShapes Go.Deep
set_option linter.unusedVariables false
section
variable {H : Type} {enc : TypeId × Value → H} {P : Program} {w : World} {base : Nat} {spare : Nat → Bool} {held : Bool}
/-- A field of a struct in memory that is a number. -/
theorem field_int {e : TypeId} {fs : Array Field} {C n : Nat} {A : Addr} {cs : List Value} {x : DataW H × List MemPlace} (he : P.underlying e = some (.struct fs)) (hone : oneCellFields P fs = true)
    (hc : w.cells? base A C = some cs) (ht : DataW.trod enc P w base spare held n e cs = some x) {j : Nat} {f : Field} {k : IntKind} (hj : fs[j]? = some f) (hk : P.underlying f.type = some (.int k)) (hC : j < C) :
    ∃ z, w.cell? (A.add j) = some (.int k z) ∧ (Lit.int k z).wf = true := by
  obtain ⟨_, hl, hat⟩ := World.cells?_some hc
  obtain ⟨ys, n', _, _, _, hyl, hf⟩ := DataW.trod_struct he ht
  obtain ⟨ho, h1⟩ := hone_of hone j f hj
  have h2 := hf j f hj
  rw [ho, h1] at h2
  have hjs : j < ys.length := by rw [hyl]; exact (Array.getElem?_eq_some_iff.1 hj).1
  rw [List.getElem?_eq_getElem hjs] at h2
  obtain ⟨z, hz, _, hwf⟩ := DataW.trod_int hk h2
  refine ⟨z, ?_, hwf⟩
  rw [hat j hC, ← List.head?_drop]
  have : ((cs.drop j).take 1).head? = some (.int k z) := by rw [hz]; rfl
  rw [← this]
  cases cs.drop j <;> rfl
end
theorem steps_open {H : Type} {enc : TypeId × Value → H} {w : World} {base : Nat} {spare : Nat → Bool} {held : Bool} {a : Option Addr} {len cap fuel : Nat} {x : DataW H × List MemPlace}
    (h : DataW.trod enc Try.prog w base spare held fuel 65 [.slice a len cap] = some x) : len ≤ cap ∧ cap ≤ maxLen ∧ ∃ st, StepsIn w a len st := by
  rcases open_slice Try.underlying65 h with ⟨h0, _⟩ | ⟨A, l, c, m, n, D, Pl, hcs, hb, hl, hm, hmm, hx, hi⟩
  · simp at h0
    obtain ⟨rfl, rfl, rfl⟩ := h0
    exact ⟨by omega, by omega, fun _ => ⟨0, 0, 0, 0⟩, fun h => by omega⟩
  · simp at hcs
    obtain ⟨rfl, rfl, rfl⟩ := hcs
    refine ⟨hl, hm, ?_⟩
    have hml : len ≤ m := by rw [hmm]; split <;> omega
    have hC : Try.prog.cellsOf 68 = 4 := by kernel_rfl
    rw [hC] at hi
    have key : ∀ i, ∃ s : Step, i < len → w.cell? (A.add (i * 4)) = some (.int .i64 s.kind) ∧ w.cell? (A.add (i * 4 + 1)) = some (.int .i64 s.at_) ∧ w.cell? (A.add (i * 4 + 2)) = some (.int .u8 s.byte.toNat) ∧ w.cell? (A.add (i * 4 + 3)) = some (.int .i64 s.less) ∧
        (-9223372036854775808 ≤ s.at_ ∧ s.at_ ≤ 9223372036854775807) := by
      intro i
      by_cases hil : i < len
      · obtain ⟨cs, hc, ht⟩ := hi i (by omega)
        obtain ⟨z0, e0, _⟩ := field_int Try.underlying68 (by kernel_rfl) hc ht (j := 0) rfl Try.underlying3 (by omega)
        obtain ⟨z1, e1, w1⟩ := field_int Try.underlying68 (by kernel_rfl) hc ht (j := 1) rfl Try.underlying3 (by omega)
        obtain ⟨z2, e2, w2⟩ := field_int Try.underlying68 (by kernel_rfl) hc ht (j := 2) rfl Try.underlying5 (by omega)
        obtain ⟨z3, e3, _⟩ := field_int Try.underlying68 (by kernel_rfl) hc ht (j := 3) rfl Try.underlying3 (by omega)
        rw [add_add] at e0 e1 e2 e3
        have b1 := bounds_i64 w1
        have b2 := bounds_u8 w2
        refine ⟨⟨z0, z1, UInt8.ofNat z2.toNat, z3⟩, fun _ => ⟨e0, e1, ?_, e3, b1⟩⟩
        rw [e2]
        show some (Value.int .u8 z2) = some (.int .u8 ((UInt8.ofNat z2.toNat).toNat : Int))
        rw [UInt8.toNat_ofNat_of_lt' (show z2.toNat < 256 by omega), Int.toNat_of_nonneg b2.1]
      · exact ⟨⟨0, 0, 0, 0⟩, fun h => absurd h hil⟩
    obtain ⟨st, hst⟩ := Classical.axiomOfChoice key
    refine ⟨st, fun hpos => ?_⟩
    obtain ⟨b, off, spot⟩ := A
    have hspot : spot = none := by
      have := (hst 0 hpos).1
      simpa [Addr.add] using World.cell?_spot this
    subst hspot
    refine ⟨b, off, rfl, ?_, fun i hil => ?_⟩
    · have := (hst 0 hpos).1
      rw [add_plain] at this
      exact World.block_lt_of_cell? w _ this
    · have := hst i hil
      rw [add_plain, add_plain, add_plain, add_plain] at this
      exact this
end Go.Proofs.Ytjaljnpgomfmfaa.disk
