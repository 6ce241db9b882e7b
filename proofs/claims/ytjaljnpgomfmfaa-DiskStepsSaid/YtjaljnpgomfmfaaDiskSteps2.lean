/-
  Proved: oriellaw6.DiskSteps returns true for every argument. Conditions: none.
-/
import Derived.Test.YtjaljnpgomfmfaaDiskSteps
namespace Go.Proofs.Ytjaljnpgomfmfaa.disk
open Go.RowKit
open heap
open num (Num_any)
set_option linter.unusedVariables false

set_option maxRecDepth 100000 in
theorem steps_bad (n : Int) (a : Option Addr) (len cap : Nat) (w : World) (h : n < 1 ∨ 65536 < n) :
    Calls Try.prog 10 #[.int .i64 n, .slice a len cap] w fun e w' => e = .returned (.bool true) ∧ Below w.heap.size w w' := by
  have HN := Lib.hid (New_bad n · h)
  rcases Int.lt_or_le n 1 with h1 | h1
  · have d1 : decide (n < 1) = true := by simpa using h1
    clear h
    go_enter Try.func10, Try.ntmps10
    go_wp2_with fail
    (with_reducible refine (HN.out _).mono ?_); rintro e w1 ⟨rfl, rfl⟩
    go_wp2_with (go_at_call 39; refine (Num_any _ _).mono ?_; rintro e w' ⟨rfl, rfl⟩)
    (with_reducible refine (awake _).mono ?_); rintro e w2 ⟨rfl, hb2⟩
    go_wp2
    go_ret
    exact ⟨rfl, hb2⟩
  · have d1 : decide (n < 1) = false := by simp; omega
    have d2 : decide (65536 < n) = true := by simp; omega
    clear h
    go_enter Try.func10, Try.ntmps10
    go_wp2_with fail
    (with_reducible refine (HN.out _).mono ?_); rintro e w1 ⟨rfl, rfl⟩
    go_wp2_with (go_at_call 39; refine (Num_any _ _).mono ?_; rintro e w' ⟨rfl, rfl⟩)
    (with_reducible refine (awake _).mono ?_); rintro e w2 ⟨rfl, hb2⟩
    go_wp2
    go_ret
    exact ⟨rfl, hb2⟩
set_option maxRecDepth 100000 in
theorem steps_big (n : Nat) (a : Option Addr) (len cap : Nat) (w : World) (h1 : 300 < n) (h2 : n ≤ 65536) :
    Calls Try.prog 10 #[.int .i64 n, .slice a len cap] w fun e w' => e = .returned (.bool true) ∧ Below w.heap.size w w' := by
  have d1 : decide ((n : Int) < 1) = false := by simp; omega
  have d2 : decide (65536 < (n : Int)) = false := by simp; omega
  have d3 : decide (300 < (n : Int)) = true := by simp; omega
  go_enter Try.func10, Try.ntmps10
  go_wp2_with fail
  (with_reducible refine (New_ok n _ (by omega) h2).mono ?_); rintro e w1 ⟨rfl, hd1, hb1⟩
  clear hd1
  go_wp2_with fail
  (with_reducible refine (awake _).mono ?_); rintro e w2 ⟨rfl, hb2⟩
  go_wp2
  go_ret
  exact ⟨rfl, hb1.trans (hb2.mono hb1.size)⟩
theorem steps (n : Int) (a : Option Addr) (len cap : Nat) (st : Nat → Step) (w : World) (hlc : len ≤ cap) (hcap : cap ≤ 9223372036854775807) (hst : StepsIn w a len st) :
    Calls Try.prog 10 #[.int .i64 n, .slice a len cap] w fun e w' => e = .returned (.bool true) ∧ Below w.heap.size w w' := by
  by_cases h : n < 1 ∨ 65536 < n
  · exact steps_bad n a len cap w h
  · obtain ⟨m, rfl⟩ := Int.eq_ofNat_of_zero_le (show 0 ≤ n by omega)
    rcases Nat.lt_or_ge 300 m with h3 | h3
    · exact steps_big m a len cap w h3 (by omega)
    · exact steps_mid m a len cap st w (by omega) h3 hlc hcap hst
end Go.Proofs.Ytjaljnpgomfmfaa.disk
