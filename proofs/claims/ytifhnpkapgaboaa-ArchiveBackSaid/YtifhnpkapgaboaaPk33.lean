/-
  Proved: what package archive does of an image without layers. Conditions: as each theorem says.
-/
import Derived.Test.YtifhnpkapgaboaaPk32
import Derived.Test.YtifhnpkapgaboaaPk2
namespace Go.Proofs.Ytifhnpkapgaboaa.arch
open Go.RowKit
open heap
open maps (MapS)
open path (sv str_size)
set_option linter.unusedVariables false
set_option linter.unusedSimpArgs false
set_option maxRecDepth 100000

theorem Ground_nil (w : World) : Calls Try.prog 34 #[.slice none 0 0] w fun e w' => e = .returned (PP (w.heap.size + 2)) ∧ w'.heap[w.heap.size + 2]? = some (.cells #[.map (some w.heap.size), .map (some (w.heap.size + 1))] 110 (0, 0)) ∧ MapS w' w.heap.size [] ∧ MapS w' (w.heap.size + 1) [] ∧ Below w.heap.size w w' := by
  have hmm := @run_makeMap_plain Try.prog
  go_enter Try.func34, Try.ntmps34
  go_wp2_with fail
  have HF := Lib.hid (blk_new ((w.alloc (.map #[] 0)).alloc (.map #[] 0)) (.cells #[.map (some w.heap.size), .map (some (w.heap.size + 1))] 110 (0, 0)))
  have HM1 : Hid (MapS (((w.alloc (.map #[] 0)).alloc (.map #[] 0)).alloc (.cells #[.map (some w.heap.size), .map (some (w.heap.size + 1))] 110 (0, 0))) w.heap.size []) := ⟨#[], 0, blk_old (blk_old (blk_new _ _) _) _, rfl⟩
  have HM2 : Hid (MapS (((w.alloc (.map #[] 0)).alloc (.map #[] 0)).alloc (.cells #[.map (some w.heap.size), .map (some (w.heap.size + 1))] 110 (0, 0))) (w.alloc (.map #[] 0)).heap.size []) := ⟨#[], 0, blk_old (blk_new _ _) _, rfl⟩
  have HB : Hid (Below w.heap.size w (((w.alloc (.map #[] 0)).alloc (.map #[] 0)).alloc (.cells #[.map (some w.heap.size), .map (some (w.heap.size + 1))] 110 (0, 0)))) := (((Below.refl _ _).alloc (Nat.le_refl _) _).alloc (by simp) _).alloc (by simp; omega) _
  simp only [World.size_alloc] at HF HM2
  generalize ((w.alloc (.map #[] 0)).alloc (.map #[] 0)).alloc (.cells #[.map (some w.heap.size), .map (some (w.heap.size + 1))] 110 (0, 0)) = w1 at *
  go_loopw [12] (fun v12 wr => wr = w1 ∧ v12 = .int .i64 0) (fun _ _ => 0)
  case atStart => exact ⟨rfl, rfl⟩
  case round =>
    obtain ⟨rfl, rfl⟩ := hrel
    go_wp2_with fail
    go_ret
    exact ⟨rfl, HF.out, HM1.out, HM2.out, HB.out⟩
end Go.Proofs.Ytifhnpkapgaboaa.arch
