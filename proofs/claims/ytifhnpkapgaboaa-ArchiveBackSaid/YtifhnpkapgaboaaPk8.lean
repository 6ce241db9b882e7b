/-
  Proved: what path.Clean, path.Below, path.Join give. Conditions: as each theorem says.
-/
import Derived.Test.YtifhnpkapgaboaaPk7
namespace Go.Proofs.Ytifhnpkapgaboaa.path
open Go.RowKit Go.Shelf
open heap
set_option linter.unusedVariables false

theorem Num_any (n : Int) (w : World) : Calls Try.prog 11 #[.int .i64 n] w fun e w' => e = .returned (.int .i64 n) ∧ w = w' := by
  go_enter Try.func11, Try.ntmps11
  go_wp2
  go_ret
  exact ⟨rfl, rfl⟩
theorem Clean_any (cwd s : List UInt8) (w : World) (hc : cwd.length ≤ 9223372036854775806) (hs : s.length ≤ 9223372036854775806) :
    Calls Try.prog 95 #[sv cwd, sv s] w fun e w' => e = .returned (.tuple #[sv (cleanR cwd s).1, .int .i64 (cleanR cwd s).2]) ∧ Below w.heap.size w w' := by
  cases h1 : cleanB cwd with
  | false =>
    have e : cleanR cwd s = ([], 401) := by simp [cleanR, h1]
    rw [e]; exact Clean_unclean cwd s w hc h1
  | true =>
    by_cases h2 : s = []
    · have e : cleanR cwd s = ([], 400) := by simp [cleanR, h1, h2]
      rw [e]; exact Clean_short cwd s 400 w hc hs h1 (.inl ⟨h2, rfl⟩)
    · by_cases h3 : 560 < s.length
      · have e : cleanR cwd s = ([], 403) := by simp [cleanR, h1, h2, h3]
        rw [e]; exact Clean_short cwd s 403 w hc hs h1 (.inr ⟨h2, h3, rfl⟩)
      · exact Clean_main cwd s w hc h1 h2 (by omega)
theorem join_s (a b : List UInt8) : (⟨a.toArray⟩ : ByteArray) ++ ⟨b.toArray⟩ = ⟨(a ++ b).toArray⟩ := by
  apply ByteArray.ext
  simp [ByteArray.data_append]
/-- Is a path another one, or below it? -/
def belowB (s t : List UInt8) : Bool := decide (t = []) || (decide (s = t) || Lib.hasPrefix s (t ++ [47]))
def pJoin (a b : List UInt8) : List UInt8 := if a = [] ∨ b = [] then a ++ b else a ++ 47 :: b
theorem ret_bool {a b : Bool} (h : a = b) : Ending.returned (.bool a) = .returned (.bool b) := by rw [h]
set_option maxRecDepth 100000 in
theorem Below_any (s t : List UInt8) (w : World) (ht : t.length ≤ 9223372036854775806) :
    Calls Try.prog 96 #[sv s, sv t] w fun e w' => e = .returned (.bool (belowB s t)) ∧ Below w.heap.size w w' := by
  have z := str_size t
  by_cases h0 : t = []
  · have HV : Hid (belowB s t = true) := by simp [Hid, belowB, h0]
    subst h0
    go_enter Try.func96, Try.ntmps96
    go_wp2
    go_ret
    exact ⟨ret_bool HV.out.symm, Below.refl _ _⟩
  · have b0 : t.isEmpty = false := by cases t <;> simp_all
    have b0' : (t == []) = false := by rw [beq_eq_false_iff_ne]; exact h0
    by_cases h1 : s = t
    · have HV : Hid (belowB s t = true) := by simp [Hid, belowB, h1]
      subst h1
      clear h0
      go_enter Try.func96, Try.ntmps96
      go_wp2
      go_ret
      exact ⟨ret_bool HV.out.symm, Below.refl _ _⟩
    · have b1 : (s == t) = false := by rw [beq_eq_false_iff_ne]; exact h1
      have HV : Hid (belowB s t = Lib.hasPrefix s (t ++ [47])) := by simp [Hid, belowB, h0, h1]
      have HP : Hid (∀ W : World, Calls Try.prog 56 #[.string ⟨s.toArray⟩, .string ⟨(t ++ [47]).toArray⟩] W fun e w' => e = .returned (.bool (Lib.hasPrefix s (t ++ [47]))) ∧ w' = W) := fun W => by
        have h := Try.strings_HasPrefix ⟨s.toArray⟩ ⟨(t ++ [(47 : UInt8)]).toArray⟩ W
        have e2 : (⟨(t ++ [(47 : UInt8)]).toArray⟩ : ByteArray).data.toList = t ++ [47] := by simp
        rw [e2] at h
        exact h
      have hj : (⟨t.toArray⟩ : ByteArray) ++ ⟨#[47]⟩ = ⟨(t ++ [47]).toArray⟩ := join_s t [47]
      clear h0 h1
      generalize Lib.hasPrefix s (t ++ [47]) = r at *
      generalize (⟨(t ++ [47]).toArray⟩ : ByteArray) = T at *
      go_enter Try.func96, Try.ntmps96
      go_wp2_with fail
      (with_reducible refine (HP.out _).mono ?_); rintro e w1 ⟨rfl, rfl⟩
      go_wp2
      go_ret
      exact ⟨ret_bool HV.out.symm, Below.refl _ _⟩
theorem aw1 : cleanR [97, 47, 98] [46, 46, 47, 99, 47, 47, 46, 47, 100] = ([97, 47, 99, 47, 100], 0) := by decide +kernel
theorem aw2 : cleanR [] [46, 46, 47, 46, 46] = ([], 0) := by decide +kernel
theorem aw3 : cleanR [] [] = ([], 400) := by decide +kernel
theorem aw4 : belowB [97, 47, 98] [97] = true := by decide +kernel
theorem aw5 : belowB [97, 98] [97] = false := by decide +kernel
end Go.Proofs.Ytifhnpkapgaboaa.path
