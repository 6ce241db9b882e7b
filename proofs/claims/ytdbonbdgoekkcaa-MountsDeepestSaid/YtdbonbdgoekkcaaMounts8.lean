/-
  Proved: the statement MountsDeepest, as a contract. Conditions: as each theorem says.
-/
import Derived.Test.YtdbonbdgoekkcaaMounts7
namespace Go.Proofs.Ytdbonbdgoekkcaa.mounts
open Go.RowKit Go.Shelf
open heap path
set_option linter.unusedVariables false

theorem and_lt (a : Int) (m : Nat) (hm : m < 9223372036854775808) : ∃ k : Nat, k ≤ m ∧ bits .and .i64 a (m : Int) = k := by
  refine ⟨(BitVec.ofInt 64 a &&& BitVec.ofInt 64 (m : Int)).toNat, ?_, ?_⟩
  · rw [BitVec.toNat_and, BitVec.ofInt_natCast, BitVec.toNat_ofNat]
    exact Nat.le_trans Nat.and_le_right (Nat.mod_le _ _)
  · have h : (BitVec.ofInt 64 a &&& BitVec.ofInt 64 (m : Int)).toNat ≤ m := by
      rw [BitVec.toNat_and, BitVec.ofInt_natCast, BitVec.toNat_ofNat]
      exact Nat.le_trans Nat.and_le_right (Nat.mod_le _ _)
    show IntKind.i64.wrap (((BitVec.ofInt 64 a &&& BitVec.ofInt 64 (m : Int)).toNat : Nat) : Int) = _
    rw [IntKind.wrap_i64]
    omega
def dP : Nat → List UInt8
  | 0 => []
  | 1 => [100]
  | i + 2 => dP (i + 1) ++ [47, 100]
def mI (i : Nat) : Mt := ⟨dP (i + 1), [109, UInt8.ofNat (48 + i)], decide (i % 2 = 1)⟩
def tabI (k : Nat) : List Mt := (List.range k).map mI
theorem may (i : Nat) (h : i < 4) : MayAdd (tabI i) (mI i) := by
  match i, h with
  | 0, _ => exact ⟨by decide +kernel, by decide +kernel, by decide +kernel, by decide +kernel, by decide +kernel, by decide +kernel, by decide +kernel, by decide +kernel, by decide +kernel⟩
  | 1, _ => exact ⟨by decide +kernel, by decide +kernel, by decide +kernel, by decide +kernel, by decide +kernel, by decide +kernel, by decide +kernel, by decide +kernel, by decide +kernel⟩
  | 2, _ => exact ⟨by decide +kernel, by decide +kernel, by decide +kernel, by decide +kernel, by decide +kernel, by decide +kernel, by decide +kernel, by decide +kernel, by decide +kernel⟩
  | 3, _ => exact ⟨by decide +kernel, by decide +kernel, by decide +kernel, by decide +kernel, by decide +kernel, by decide +kernel, by decide +kernel, by decide +kernel, by decide +kernel⟩
theorem deep_all : ∀ k : Fin 5, ∀ i : Fin 4, i.val < k.val → walkR (tabI k.val) (dP (i.val + 1) ++ [47, 120]) = ([109, UInt8.ofNat (48 + i.val), 47, 120], decide (i.val % 2 = 1)) ∧ walkR (tabI k.val) [100, 100] = ([100, 100], false) := by decide +kernel
theorem tab_bd (k : Nat) (h : k ≤ 4) : ∀ m ∈ tabI k, m.at_.length ≤ 1000 ∧ m.fr.length ≤ 1000 := by
  have : ∀ k : Fin 5, ∀ m ∈ tabI k.val, m.at_.length ≤ 1000 ∧ m.fr.length ≤ 1000 := by decide +kernel
  exact this ⟨k, by omega⟩
end Go.Proofs.Ytdbonbdgoekkcaa.mounts
