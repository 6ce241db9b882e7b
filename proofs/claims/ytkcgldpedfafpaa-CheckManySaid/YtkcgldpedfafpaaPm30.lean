/-
  Proved: the first fault of the recipe and of the script that CheckMany writes, with the fuel that the walks want (plain). Conditions: as each theorem says. No program is in sight.
-/
import Derived.Test.YtkcgldpedfafpaaPm28
import Derived.Test.YtkcgldpedfafpaaPm29
namespace Go.Proofs.Ytkcgldpedfafpaa.many
open Go Go.RowKit
open lex par chk
set_option linter.unusedVariables false
set_option maxRecDepth 1000000

theorem okp_d : okp [100] = true := by decide +kernel
theorem frTs_snoc (n : Nat) : frTs (n + 1) = frTs n ++ frT := by
  induction n with
  | zero => rfl
  | succ n ih => rw [frTs, ih, ← List.append_assoc, ← frTs, ← ih, frTs]
theorem mkTs_snoc (n : Nat) : mkTs (n + 1) = mkTs n ++ mkT := by
  induction n with
  | zero => rfl
  | succ n ih => rw [mkTs, ih, ← List.append_assoc, ← mkTs, ← ih, mkTs]
/-- The recipe of a + 1 stages, the last with b steps. -/
def recT (a b : Nat) : List UInt8 := frTs (a + 1) ++ mkTs b
def recM (a b : Nat) : Int × Int := if 8 < a + 1 then (72, 2004) else if 32 < b then ((9 * (a + 1) + 352 : Nat), 2004) else (0, 0)
theorem rec_len (a b : Nat) : (recT a b).length = 9 * (a + 1) + 11 * b := by rw [recT, List.length_append, fr_len, mk_len]
theorem rec_ts (a b : Nat) (ha : a < 16) (hb : b < 64) : (envOf (recT a b)).ts = restK (a + 1) b 0 := by
  unfold envOf recT
  rw [scan_all (a + 1) b (by omega)]
  unfold restK
  simp
theorem frKs_len (a : Nat) : ∀ q, (frKs a q).length = 3 * a := by
  induction a with
  | zero => intro q; rfl
  | succ a ih => intro q; rw [frKs, List.length_append, ih]; simp [frK]; omega
theorem rec_ms (a b : Nat) (ha : a < 16) (hb : b < 64) : ms (envOf (recT a b)) st0 ≤ 100001 := by
  rw [ms_ok rfl, rec_ts a b ha hb, restK, List.length_append, List.length_append, frKs_len, mkKs_len]
  simp [st0]; omega
theorem rec_chk (a b : Nat) (ha : a < 16) (hb : b < 64) : chkC (recT a b) 1600024 100002 100002 = some (recM a b) := by
  have h := recipe_fr (E := envOf (recT a b)) (f := 1600024) (n := 100002) (m := 100002) (a := a) (b := b) (by omega) (by omega) (rec_ts a b ha hb)
  unfold chkC
  rw [show st0 = (⟨0, 0, 0, 0⟩ : PS) from rfl, h]
  simp only
  rw [if_pos trivial]
  show some (atOf (stagesF fnT okp 0 [] (stNs (a + 1) b 0))) = _
  rw [stages_fault fnT okp okp_d b a 0 0]
  unfold recM
  rw [show (0 + (a + 1)) = a + 1 by omega]
  split
  · rfl
  · split
    · rw [show 0 + 9 * (a + 1) + 11 * 32 = 9 * (a + 1) + 352 by omega]; rfl
    · rfl
theorem setsF_low : ((List.range 16).all fun c => match chkE ⟨setKs 0 (20 + c) 0 ++ [⟨0, [], 0, endA 0 (20 + c) 0⟩], 0, 0⟩ 1600024 60 with
    | some (a, e) => if 20 + c ≤ 32 then a == 0 && e == 0 else e == 2004 && decide (384 ≤ a)
    | none => false) = true := by decide +kernel
theorem setsF_high : ((List.range 16).all fun c => match chkE ⟨setKs 0 (36 + c) 0 ++ [⟨0, [], 0, endA 0 (36 + c) 0⟩], 0, 0⟩ 1600024 60 with
    | some (a, e) => if 36 + c ≤ 32 then a == 0 && e == 0 else e == 2004 && decide (384 ≤ a)
    | none => false) = true := by decide +kernel
theorem set_all (n : Nat) (h1 : 20 ≤ n) (h2 : n < 52) : (match chkE ⟨setKs 0 n 0 ++ [⟨0, [], 0, endA 0 n 0⟩], 0, 0⟩ 1600024 60 with
    | some (a, e) => if n ≤ 32 then a == 0 && e == 0 else e == 2004 && decide (384 ≤ a)
    | none => false) = true := by
  by_cases h : n < 36
  · have := List.all_eq_true.1 setsF_low (n - 20) (List.mem_range.2 (by omega))
    rwa [show 20 + (n - 20) = n by omega] at this
  · have := List.all_eq_true.1 setsF_high (n - 36) (List.mem_range.2 (by omega))
    rwa [show 36 + (n - 36) = n by omega] at this
theorem chkS_E (l : List UInt8) (f m : Nat) : chkS l f m = chkE (envOf l) f m := by
  unfold chkS chkE
  generalize stmtsR (envOf l) f m [] st0 = r
  cases r <;> rfl
theorem env_sets (n : Nat) (h : n ≤ 100) : envOf (setTs n) = ⟨setKs 0 n 0 ++ [⟨0, [], 0, endA 0 n 0⟩], 0, 0⟩ := by
  unfold envOf
  rw [sets_tokens n h]
  rfl
theorem set_chk (n : Nat) (h1 : 20 ≤ n) (h2 : n < 52) : ∃ a e : Int, chkS (setTs n) 1600024 60 = some (a, e) ∧ (n ≤ 32 → a = 0 ∧ e = 0) ∧ (32 < n → e = 2004 ∧ 384 ≤ a) := by
  have h := set_all n h1 h2
  have e : chkS (setTs n) 1600024 60 = chkE ⟨setKs 0 n 0 ++ [⟨0, [], 0, endA 0 n 0⟩], 0, 0⟩ 1600024 60 := by
    rw [chkS_E, env_sets n (by omega)]
  rw [e]
  split at h
  · rename_i a e he
    refine ⟨a, e, he, fun hn => ?_, fun hn => ?_⟩
    · rw [if_pos hn, Bool.and_eq_true] at h
      exact ⟨eq_of_beq h.1, eq_of_beq h.2⟩
    · rw [if_neg (by omega), Bool.and_eq_true] at h
      exact ⟨eq_of_beq h.1, of_decide_eq_true h.2⟩
  · cases h
theorem setTs_len (n : Nat) : (setTs n).length ≤ 13 * n := by
  rw [← setsR_all]; exact (sets_len n 0).1
end Go.Proofs.Ytkcgldpedfafpaa.many
