/-
  Proved: what the program's DecodeImage and EncodeImage do. Conditions: as each theorem says.
-/
import Derived.Test.YtifhnpkapgaboaaPk39
import Derived.Test.YtifhnpkapgaboaaPk41
namespace Go.Proofs.Ytifhnpkapgaboaa.arch
open Go.RowKit
open heap
open path (sv str_size)
open fld (Fld FldP applyF ApP Apply_any Many_any tur_new)
set_option linter.unusedVariables false
set_option linter.unusedSimpArgs false
set_option maxRecDepth 100000

theorem DecodeImage_any (s : Nm) (w : World) (hs : s.length ≤ 1000000000000000000) : Calls Try.prog 14 #[sv s] w (DecG GIm (decI s) w) := by
  have HR := Lib.hid (readI_any GIm GIm.keeps s (imgG s) (w.alloc (.cells #[.slice none 0 0] 37 (0, 0))) hs (fun q W h hl => decodeI_any q s W h hl))
  obtain ⟨R, hR⟩ : ∃ R, decI s = R := ⟨_, rfl⟩
  rw [show readG s (imgG s) = decI s from rfl, hR] at HR
  rw [hR]
  clear hR
  have hmf : ∀ (fn : Fn) (first cap : Array Value) (w : World), (Instr.makeFunc fn first cap).run Try.prog w = .ok (.func fn first cap) w := fun _ _ _ _ => rfl
  have HN := Lib.hid (blk_new w (.cells #[.slice none 0 0] 37 (0, 0)))
  have HB : Hid (Below w.heap.size w (w.alloc (.cells #[.slice none 0 0] 37 (0, 0)))) := (Below.refl _ _).alloc (Nat.le_refl _) _
  go_enter Try.func14, Try.ntmps14
  go_wp2_with fail
  refine (HR.out).mono ?_
  intro e w2 hp
  cases R with
  | error p =>
    obtain ⟨rfl, hb⟩ := hp
    have HN2 := blk_below HN.out hb
    have HB2 := Lib.hid (HB.out.trans (hb.mono (by simp)))
    clear hb HB HR
    have c2 := blk_cell HN2 0
    have f2 := blk_free HN2 0
    have l2 := blk_lt HN2
    simp only [List.getElem?_toArray, List.getElem?_cons_zero] at c2
    go_wp2_with fail
    have k2 := blk_cell (blk_set HN2 0 (.slice none 0 0)) 0
    simp only [List.setIfInBounds_toArray, List.set_cons_zero, List.getElem?_toArray, List.getElem?_cons_zero] at k2
    refine bodyPost_ret (v := .tuple #[.agg #[.slice none 0 0], .int .i64 p.1, .int .i64 p.2]) (by simp [results, Try.results14, go_sem, k2]) rfl ?_
    exact ⟨rfl, HB2.out.setCell (by simp) _⟩
  | ok ls =>
    obtain ⟨v, rfl, ⟨vs, hrow⟩, hb⟩ := hp
    obtain ⟨A, gb, c, rfl, -⟩ := hrow.slice
    have HN2 := blk_below HN.out hb
    have HB2 := Lib.hid (HB.out.trans (hb.mono (by simp)))
    have HW := Lib.hid hrow
    clear hb HB HR hrow
    have c2 := blk_cell HN2 0
    have f2 := blk_free HN2 0
    have l2 := blk_lt HN2
    simp only [List.getElem?_toArray, List.getElem?_cons_zero] at c2
    go_upto_region 6 with fail
    have k2 := blk_cell (blk_set HN2 0 (.slice A ls.length c)) 0
    simp only [List.setIfInBounds_toArray, List.set_cons_zero, List.getElem?_toArray, List.getElem?_cons_zero] at k2
    refine bodyPost_ret (v := .tuple #[.agg #[.slice A ls.length c], .int .i64 0, .int .i64 0]) (by simp [results, Try.results14, go_sem, k2]) rfl ?_
    exact ⟨_, rfl, ⟨vs, (HW.out.low ((Turned.refl [w.heap.size] _).setCell (by simp) _) (by simp)).base (by simp)⟩, HB2.out.setCell (by simp) _⟩
theorem May_none (A : Option Addr) (c : Nat) (w : World) : Calls Try.prog 25 #[.agg #[.slice A 0 c]] w fun r w' => r = .returned (.tuple #[.int .i64 0, .int .i64 0]) ∧ Below w.heap.size w w' := by
  have HB : Hid (Below w.heap.size w (w.alloc (.cells #[.slice A 0 c] 24 (0, 0)))) := (Below.refl _ _).alloc (Nat.le_refl _) _
  have hbx := blk_new w (.cells #[.slice A 0 c] 24 (0, 0))
  have q0 := blk_cell hbx 0
  have ql := blk_lt hbx
  simp only [List.getElem?_toArray, List.getElem?_cons_zero] at q0
  go_enter Try.func25, Try.ntmps25
  go_wp2_with fail
  change Code.wp _ _ _ _ (w.alloc (.cells #[.slice A 0 c] 24 (0, 0)))
  generalize (w.alloc (.cells #[.slice A 0 c] 24 (0, 0))) = w1 at *
  go_loopw [14] (fun v4 wr => v4 = .int .i64 0 ∧ w1 = wr) (fun _ _ => 0)
  case atStart => exact ⟨rfl, rfl⟩
  case round =>
    obtain ⟨rfl, rfl⟩ := hrel
    go_wp2_with fail
    go_ret2
    exact ⟨rfl, HB.out⟩
theorem Laid_none (A : Option Addr) (c : Nat) (w : World) : Calls Try.prog 26 #[.agg #[.slice A 0 c]] w fun r w' => r = .returned (sv [79, 82, 76, 0]) ∧ Below w.heap.size w w' := by
  have HB : Hid (Below w.heap.size w (w.alloc (.cells #[.slice A 0 c] 24 (0, 0)))) := (Below.refl _ _).alloc (Nat.le_refl _) _
  have HBX := Lib.hid (blk_new w (.cells #[.slice A 0 c] 24 (0, 0)))
  go_enter Try.func26, Try.ntmps26
  go_upto_region 2 with fail
  change Code.wp _ _ _ _ ((w.alloc (.cells #[.slice A 0 c] 24 (0, 0))).alloc (.cells #[.pointer none, .slice none 0 0] 94 (0, 0)))
  have HIS0 := Lib.hid (new_builder (w.alloc (.cells #[.slice A 0 c] 24 (0, 0))))
  have hsz : (w.alloc (.cells #[.slice A 0 c] 24 (0, 0))).heap.size = w.heap.size + 1 := by simp
  rw [hsz] at HIS0
  have HB1 : Hid (Below w.heap.size w ((w.alloc (.cells #[.slice A 0 c] 24 (0, 0))).alloc (.cells #[.pointer none, .slice none 0 0] 94 (0, 0)))) := HB.out.alloc HB.out.size _
  have HBX1 := Lib.hid (blk_old HBX.out (.cells #[.pointer none, .slice none 0 0] 94 (0, 0)))
  generalize ((w.alloc (.cells #[.slice A 0 c] 24 (0, 0))).alloc (.cells #[.pointer none, .slice none 0 0] 94 (0, 0))) = w1 at *
  clear hsz HB HBX
  have HWS := Lib.hid (ws_any (w.heap.size + 1) [] [79, 82, 76] w1 HIS0.out (by simp))
  go_wp2_with fail
  refine HWS.out.mono ?_; rintro r w2 ⟨rfl, his, hb⟩
  have HIS := Lib.hid his
  have HBX2 := Lib.hid ((hb.block w.heap.size (by omega)).trans HBX1.out)
  have HB2 : Hid (Below w.heap.size w w2) := HB1.out.trans (hb.mono (by omega))
  clear his hb HWS HBX1 HB1 HIS0
  have q0 := blk_cell HBX2.out 0
  have ql := blk_lt HBX2.out
  simp only [List.getElem?_toArray, List.getElem?_cons_zero] at q0
  go_wp2_with fail
  clear q0 ql
  go_loopw [10] (fun v10 wr => v10 = .int .i64 0 ∧ w2 = wr) (fun _ _ => 0)
  case atStart => exact ⟨rfl, rfl⟩
  case round =>
    obtain ⟨rfl, rfl⟩ := hrel
    have HWB := Lib.hid (wb_any (w.heap.size + 1) [79, 82, 76] 0 w2 HIS.out (by simp))
    go_wp2_with fail
    refine HWB.out.mono ?_; rintro r w3 ⟨rfl, hi, hb⟩
    have HI3 := Lib.hid hi
    have HB3 : Hid (Below w.heap.size w w3) := HB2.out.trans (hb.mono (by omega))
    have HSTR := Lib.hid (Try.Builder_String_any (w.heap.size + 1) (w.heap.size + 1) [79, 82, 76, 0] w3 hi (Nat.le_of_lt hi.lt))
    clear hi hb HWB
    go_wp2_with fail
    refine HSTR.out.mono ?_; rintro r w4 ⟨rfl, hb⟩
    have HB4 : Hid (Below w.heap.size w w4) := HB3.out.trans (hb.mono (by omega))
    clear hb HSTR
    go_wp2_with fail
    go_ret
    exact ⟨rfl, HB4.out⟩
end Go.Proofs.Ytifhnpkapgaboaa.arch
