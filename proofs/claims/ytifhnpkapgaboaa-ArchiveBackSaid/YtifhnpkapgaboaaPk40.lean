/-
  Proved: oriellaw13.awake returns true. Conditions: as each theorem says.
-/
import Derived.Test.YtifhnpkapgaboaaPk34
namespace Go.Proofs.Ytifhnpkapgaboaa.arch
open Go.RowKit
open heap
open path (sv str_size)
set_option linter.unusedVariables false
set_option linter.unusedSimpArgs false
set_option maxRecDepth 100000

theorem Num_any (e : Int) (w : World) : Calls Try.prog 11 #[.int .i64 e] w fun e' w' => e' = .returned (.int .i64 e) ∧ w = w' := by
  go_enter Try.func11, Try.ntmps11
  go_wp2_with fail
  go_ret
  exact ⟨rfl, rfl⟩
def exE : Ent := ⟨[97], 2, 420, [120, 121]⟩
theorem ex_enc : encL [exE] = ([79, 82, 76, 2, 1, 97, 164, 1, 2, 0, 120, 121, 0], 0, 0) := by decide
theorem ex_dec : decD [79, 82, 76] = .error (3, 1300) := by rfl
abbrev exO : Obj := .cells #[sv [97], .int .i64 2, .int .i64 420, sv [120, 121]] 52 (0, 0)
theorem ex_at (w : World) (b : Nat) (h : w.heap[b]? = some exO) : EAt w b 0 [exE] := by
  intro i e he
  match i with
  | 0 =>
    cases he
    exact ⟨blk_cell h 0, blk_cell h 1, blk_cell h 2, blk_cell h 3⟩
  | i + 1 => cases he
theorem awake_any (w : World) : Calls Try.prog 13 #[] w fun e w' => e = .returned (.bool true) ∧ Below w.heap.size w w' := by
  have HE := Lib.hid (Encode_any [exE] w.heap.size 0 1 _ (ex_at _ _ (blk_new w exO)) (by decide) (by decide) (by intro x hx; cases hx with | head => exact ⟨by decide, by decide⟩ | tail _ h => cases h))
  have HB : Hid (Below w.heap.size w (w.alloc exO)) := (Below.refl _ _).alloc (Nat.le_refl _) _
  rw [ex_enc] at HE
  go_enter Try.func13, Try.ntmps13
  go_wp2_with fail
  refine HE.out.mono ?_; rintro e w1 ⟨rfl, hb⟩
  have HB1 := Lib.hid (HB.out.trans (hb.mono HB.out.size))
  clear hb HE HB
  go_wp2_with fail
  have HD := Lib.hid (Decode_any [79, 82, 76] w1 (by decide))
  rw [ex_dec] at HD
  refine HD.out.mono ?_; rintro e w2 ⟨rfl, hb⟩
  have HB2 := Lib.hid (HB1.out.trans (hb.mono HB1.out.size))
  clear hb HD HB1
  go_wp2_with fail
  refine (EncodeImage_ex _).mono ?_; rintro e w3 ⟨rfl, hb⟩
  have HB3 := Lib.hid ((HB2.out.alloc HB2.out.size _).trans (hb.mono (HB2.out.alloc HB2.out.size _).size))
  clear hb HB2
  go_wp2_with fail
  refine (DecodeImage_ex w3).mono ?_; rintro e w4 ⟨rfl, hb⟩
  have HB4 := Lib.hid (HB3.out.trans (hb.mono HB3.out.size))
  clear hb HB3
  go_wp2_with fail
  refine (Num_any _ _).mono ?_; rintro e w' ⟨rfl, rfl⟩
  go_wp2_with fail
  refine (Num_any _ _).mono ?_; rintro e w' ⟨rfl, rfl⟩
  go_wp2_with fail
  refine (Num_any _ _).mono ?_; rintro e w' ⟨rfl, rfl⟩
  go_wp2_with fail
  refine (Num_any _ _).mono ?_; rintro e w' ⟨rfl, rfl⟩
  go_wp2_with fail
  go_ret
  exact ⟨rfl, HB4.out.alloc HB4.out.size _⟩
end Go.Proofs.Ytifhnpkapgaboaa.arch
