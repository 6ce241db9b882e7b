/-
  Proved: small facts on a row of bytes in memory that is known byte by byte: read, written, turned into a text, made of a text. Conditions: as each theorem says.
-/
import Derived.Test.YtifhnpkapgaboaaRows
import Derived.WalkKit
import Derived.WalkLawsBesides
import Derived.WalkSpells
import Derived.Outline
import Derived.Lib.Hide
import Derived.Laws.BytesArg
import Derived.Laws.IdiomStrings
namespace Go.Proofs.Ytifhnpkapgaboaa.row
open Go.RowKit

def byteV (c : UInt8) : Value := .int .u8 (c.toNat : Int)
/-- Block g begins with the bytes l; they may be written. -/
def RowIs (w : World) (g : Nat) (l : List UInt8) : Prop :=
  ∃ cs lo hi, w.heap[g]? = some (.cells cs 5 (lo, hi)) ∧ l.length ≤ lo + (if hi ≤ lo then l.length else 0) ∧ l.length ≤ cs.size ∧ ∀ i, i < l.length → cs[i]? = some (byteV (l.getD i 0))
theorem RowIs.cell {w : World} {g : Nat} {l : List UInt8} (h : RowIs w g l) (i : Nat) (hi : i < l.length) : w.cell? ⟨g, i, none⟩ = some (byteV (l.getD i 0)) := by
  obtain ⟨cs, lo, hi', h1, _, _, h2⟩ := h
  simp only [World.cell?, h1]
  simpa using h2 i hi
theorem RowIs.free {w : World} {g : Nat} {l : List UInt8} (h : RowIs w g l) (i : Nat) (hi : i < l.length) : w.frozen? ⟨g, i, none⟩ = false := by
  obtain ⟨cs, lo, hi', h1, h2, _, _⟩ := h
  simp only [World.frozen?, h1]
  split at h2
  · simp; omega
  · simp; omega
theorem RowIs.lt {w : World} {g : Nat} {l : List UInt8} (h : RowIs w g l) : g < w.heap.size := by
  obtain ⟨cs, lo, hi', h1, _⟩ := h
  exact (Array.getElem?_eq_some_iff.1 h1).1
theorem RowIs.set {w : World} {g : Nat} {l : List UInt8} (h : RowIs w g l) (i : Nat) (c : UInt8) : RowIs (w.setCell ⟨g, i, none⟩ (byteV c)) g (l.set i c) := by
  obtain ⟨cs, lo, hi', h1, h2, h3, h4⟩ := h
  refine ⟨cs.setIfInBounds i (byteV c), lo, hi', ?_, by simpa using h2, by simpa using h3, fun j hj => ?_⟩
  · simp [World.setCell, Array.getElem?_modify, h1]
  · rw [List.length_set] at hj
    rw [Array.getElem?_setIfInBounds]
    by_cases e : i = j
    · subst e
      have : i < cs.size := by omega
      simp [this, hj]
    · rw [if_neg e, h4 j hj]
      simp [List.getElem?_set, e]
theorem RowIs.of_block {w w' : World} {g : Nat} {l : List UInt8} (h : RowIs w g l) (hb : w'.heap[g]? = w.heap[g]?) : RowIs w' g l := by
  obtain ⟨cs, lo, hi', h1, h2⟩ := h
  exact ⟨cs, lo, hi', by rw [hb, h1], h2⟩
theorem RowIs.below {w w' : World} {B g : Nat} {l : List UInt8} (h : RowIs w g l) (hb : Below B w w') (hg : g < B) : RowIs w' g l := h.of_block (hb.block g hg)
/-- string(b) -/
theorem RowIs.conv {w : World} {g : Nat} {l : List UInt8} (h : RowIs w g l) (cap : Nat) :
    (convert 90 9 (.slice (some ⟨g, 0, none⟩) l.length cap)).run Try.prog w = .ok (.string ⟨l.toArray⟩) w := by
  refine run_convert_bytes_back w 90 9 5 ⟨g, 0, none⟩ cap l Try.underlying90 Try.underlying5 Try.underlying9 (fun j hj => ?_)
  have e : (⟨g, 0, none⟩ : Addr).add j = ⟨g, j, none⟩ := by unfold Addr.add; split <;> simp_all
  rw [e, h.cell j hj]
  simp [byteV, hj]
/-- []byte(s) -/
theorem of_string (w : World) (s : ByteArray) : ∃ cap w', (convert 9 90 (.string s)).run Try.prog w = .ok (.slice (some ⟨w.heap.size, 0, none⟩) s.size cap) w' ∧ s.size ≤ cap ∧
    RowIs w' w.heap.size s.data.toList ∧ Below w.heap.size w w' := by
  refine ⟨_, _, run_bytes_of_string w 9 90 5 s Try.underlying9 Try.underlying90 Try.underlying5, grownCap_ge w s.size 0 5, ⟨_, _, _, heap_alloc_new w.drew _, ?_, ?_, fun i hi => ?_⟩, (Below.refl w.heap.size w).drew.alloc (Nat.le_refl _) _⟩
  · simp [bytesRow]; omega
  · simp [bytesRow]
  · have hi' : i < s.data.size := by simpa using hi
    have hi2 : i < s.size := hi'
    simp [bytesRow, byteV, Array.getElem?_append, hi', hi2]
end Go.Proofs.Ytifhnpkapgaboaa.row
