/-
  Proved: the Go functions digest.Of and orielref3.Of give one and the same number, and oriellaw3.DigestTexts returns true for every text of at most maxLen bytes. Conditions: none besides.
-/
import Derived.Test.YtjaljnpgomfmfaaRows
import Derived.WalkKit
import Derived.WalkLawsBesides
import Derived.WalkSpells
import Derived.Outline
import Derived.Lib.Hide
namespace Go.Proofs.Ytjaljnpgomfmfaa.digest
open Go.RowKit
set_option linter.unusedVariables false
def step (x : Int) (c : UInt8) : Int := bits BinOp.xor IntKind.u32 x ((c.toNat : Int) % 4294967296) * 16777619 % 4294967296
def upTo (s : ByteArray) : Nat → Int
  | 0 => 2166136261
  | k + 1 => if h : k < s.size then step (upTo s k) s[k] else upTo s k
def dig (s : ByteArray) : Int := bits BinOp.xor IntKind.u32 (upTo s s.size) (upTo s s.size / 32768)
theorem upTo_bd (s : ByteArray) (k : Nat) : 0 ≤ upTo s k ∧ upTo s k < 4294967296 := by
  induction k with
  | zero => simp [upTo]
  | succ k ih =>
    unfold upTo
    split
    · unfold step; omega
    · exact ih
theorem upTo_succ (s : ByteArray) (k : Nat) (h : k < s.size) : upTo s (k + 1) = bits BinOp.xor IntKind.u32 (upTo s k) ((s[k].toNat : Int) % 4294967296) * 16777619 % 4294967296 := by
  rw [upTo, dif_pos h]; rfl

theorem ret_int {k : IntKind} {a b : Int} (h : a = b) : Ending.returned (.int k a) = .returned (.int k b) := by rw [h]
theorem of_any (s : ByteArray) (w : World) (hs : s.size ≤ maxLen) :
    Calls Try.prog 30 #[.string s] w fun e w' => e = .returned (.int .u32 (dig s)) ∧ w = w' := by
  unfold maxLen at hs
  go_enter Try.func30, Try.ntmps30
  go_wp2
  go_loop [2, 3, 6] (fun h j i => ∃ k : Nat, k ≤ s.size ∧ i = .int .i64 k ∧ h = .int .u32 (upTo s k)) (fun _ _ i => s.size - (intOf i).toNat)
  case atStart => exact ⟨0, Nat.zero_le _, rfl, rfl⟩
  case round =>
    obtain ⟨k, hk, rfl, rfl⟩ := hrel
    have hb := upTo_bd s k
    have H := Lib.hid (upTo_succ s k)
    have HF : Hid (k = s.size → bits BinOp.xor IntKind.u32 (upTo s k) (upTo s k / 32768) = dig s) := fun h => by subst h; rfl
    generalize upTo s k = x at *
    by_cases hlt : k < s.size
    · go_wp2
      go_round
      case rel => exact ⟨k + 1, hlt, by go_num, by rw [H.out hlt]⟩
      case measure => simp [intOf]; omega
    · go_wp2
      go_ret
      exact ⟨ret_int (HF.out (by omega)), rfl⟩
theorem ref_any (s : ByteArray) (w : World) (hs : s.size ≤ maxLen) :
    Calls Try.prog 31 #[.string s] w fun e w' => e = .returned (.int .u32 (dig s)) ∧ w = w' := by
  unfold maxLen at hs
  go_enter Try.func31, Try.ntmps31
  go_wp2
  go_loop [3, 4] (fun h i => ∃ k : Nat, k ≤ s.size ∧ i = .int .i64 k ∧ h = .int .u32 (upTo s k)) (fun _ i => s.size - (intOf i).toNat)
  case atStart => exact ⟨0, Nat.zero_le _, rfl, rfl⟩
  case round =>
    obtain ⟨k, hk, rfl, rfl⟩ := hrel
    have hb := upTo_bd s k
    have H := Lib.hid (upTo_succ s k)
    have HF : Hid (k = s.size → bits BinOp.xor IntKind.u32 (upTo s k) (upTo s k / 32768) = dig s) := fun h => by subst h; rfl
    generalize upTo s k = x at *
    by_cases hlt : k < s.size
    · go_wp2
      go_round
      case rel => exact ⟨k + 1, hlt, by go_num, by rw [H.out hlt]⟩
      case measure => simp [intOf]; omega
    · go_wp2
      go_ret
      exact ⟨ret_int (HF.out (by omega)), rfl⟩
theorem of_e (w : World) : Calls Try.prog 30 #[.string ⟨#[]⟩] w fun e w' => e = .returned (.int .u32 2166202364) ∧ w = w' :=
  (of_any _ w (by decide)).mono fun e w' ⟨he, hw⟩ => ⟨by rw [he]; exact ret_int (by decide +kernel), hw⟩
theorem of_a (w : World) : Calls Try.prog 30 #[.string ⟨#[97]⟩] w fun e w' => e = .returned (.int .u32 3826114868) ∧ w = w' :=
  (of_any _ w (by decide)).mono fun e w' ⟨he, hw⟩ => ⟨by rw [he]; exact ret_int (by decide +kernel), hw⟩
theorem of_b (w : World) : Calls Try.prog 30 #[.string ⟨#[98]⟩] w fun e w' => e = .returned (.int .u32 3876447229) ∧ w = w' :=
  (of_any _ w (by decide)).mono fun e w' ⟨he, hw⟩ => ⟨by rw [he]; exact ret_int (by decide +kernel), hw⟩
theorem awake (w : World) :
    Calls Try.prog 32 #[] w fun e w' => e = .returned (.bool true) ∧ w = w' := by
  go_enter Try.func32, Try.ntmps32
  go_wp2_with fail
  (with_reducible refine (of_e _).mono ?_); rintro e w' ⟨rfl, rfl⟩
  go_wp2_with fail
  (with_reducible refine (of_a _).mono ?_); rintro e w' ⟨rfl, rfl⟩
  go_wp2_with fail
  (with_reducible refine (of_b _).mono ?_); rintro e w' ⟨rfl, rfl⟩
  go_wp2
  go_ret
  exact ⟨rfl, rfl⟩
theorem law (s : ByteArray) (w : World) (hs : s.size ≤ maxLen) : Calls Try.prog 4 #[.string s] w fun e w' => e = .returned (.bool true) ∧ w = w' := by
  go_enter Try.func4, Try.ntmps4
  go_wp2_with fail
  (with_reducible refine (of_any _ _ hs).mono ?_); rintro e w' ⟨rfl, rfl⟩
  go_wp2_with fail
  (with_reducible refine (ref_any _ _ hs).mono ?_); rintro e w' ⟨rfl, rfl⟩
  generalize dig s = d
  go_wp2_with fail
  (with_reducible refine (awake _).mono ?_); rintro e w' ⟨rfl, rfl⟩
  go_wp2
  go_ret
  exact ⟨rfl, rfl⟩
end Go.Proofs.Ytjaljnpgomfmfaa.digest
