/-
  Proved: what the document's scanner, parser and checker make of so many statements 'set' (plain). Conditions: as each theorem says. No program is in sight.
-/
import Derived.Test.YtkcgldpedfafpaaPm19
namespace Go.Proofs.Ytkcgldpedfafpaa.many
open Go Go.RowKit
open lex par chk
open flt (ofT)
set_option linter.unusedVariables false
set_option maxRecDepth 1000000

/-- set vI = 1; set v(I+1) = 1; .. -/
def setsR : Nat → Nat → List UInt8
  | _, 0 => []
  | i, n + 1 => setT i ++ setsR (i + 1) n
theorem setsR_snoc (n : Nat) : ∀ i, setsR i (n + 1) = setsR i n ++ setT (i + n) := by
  induction n with
  | zero => intro i; simp [setsR]
  | succ n ih =>
    intro i
    rw [setsR, ih (i + 1), setsR, List.append_assoc, show i + 1 + n = i + (n + 1) by omega]
theorem setsR_all (n : Nat) : setsR 0 n = setTs n := by
  induction n with
  | zero => rfl
  | succ n ih => rw [setsR_snoc, ih, Nat.zero_add]; rfl
def oneB : Nat := 4607182418800017408
theorem of_one : ofT [49] = some oneB := by decide +kernel
def setK (i a : Nat) : List Tk := [⟨1, [115, 101, 116], 0, a⟩, ⟨1, 118 :: decT i, 0, a + 4⟩, ⟨4, [61], 0, a + 6 + (decT i).length⟩, ⟨2, [49], oneB, a + 8 + (decT i).length⟩, ⟨4, [59], 0, a + 9 + (decT i).length⟩]
def setKs : Nat → Nat → Nat → List Tk
  | _, 0, _ => []
  | i, n + 1, a => setK i a ++ setKs (i + 1) n (a + 11 + (decT i).length)
def endA : Nat → Nat → Nat → Nat
  | _, 0, a => a
  | i, n + 1, a => endA (i + 1) n (a + 11 + (decT i).length)
theorem t_set (R : List UInt8) : tok (115 :: 101 :: 116 :: 32 :: R) = .ok (1, [115, 101, 116], 0, 3) := by rfl
theorem t_is (R : List UInt8) : tok (61 :: 32 :: R) = .ok (4, [61], 0, 1) := by rfl
theorem t_sem (R : List UInt8) : tok (59 :: R) = .ok (4, [59], 0, 1) := by rfl
theorem t_one (R : List UInt8) : tok (49 :: 59 :: R) = .ok (2, [49], oneB, 1) := by
  have h1 : letB ((49 :: 59 :: R).getD 0 0) = false := by rfl
  have h2 : flt.isD ((49 :: 59 :: R).getD 0 0) = true := by rfl
  have hr : runB flt.isD (49 :: 59 :: R) = 1 := by rfl
  have h3 : numEnd (49 :: 59 :: R) = 1 := by
    unfold numEnd
    rw [hr, if_neg]
    rw [show (49 :: 59 :: R).getD 1 0 = 59 from rfl]
    simp
  unfold tok
  rw [if_neg (by rw [h1]; exact Bool.false_ne_true), if_pos h2, h3]
  rw [show (49 :: 59 :: R).take 1 = [49] from rfl, of_one]
  rfl
theorem t_var1 (c : UInt8) (R : List UInt8) (h : flt.isD c = true) : tok (118 :: c :: 32 :: R) = .ok (1, [118, c], 0, 2) := by
  have hw : wordB c = true := by unfold wordB; rw [h, Bool.or_true]
  have hr : runB wordB (118 :: c :: 32 :: R) = 2 := by
    unfold runB
    rw [List.takeWhile_cons, show wordB 118 = true from rfl, if_pos rfl, List.takeWhile_cons, hw, if_pos rfl, List.takeWhile_cons, show wordB 32 = false from rfl]
    rfl
  unfold tok
  rw [if_pos (show letB ((118 :: c :: 32 :: R).getD 0 0) = true from rfl), hr, if_neg (by decide)]
  rfl
theorem t_var2 (c e : UInt8) (R : List UInt8) (h : flt.isD c = true) (h2 : flt.isD e = true) : tok (118 :: c :: e :: 32 :: R) = .ok (1, [118, c, e], 0, 3) := by
  have hw : wordB c = true := by unfold wordB; rw [h, Bool.or_true]
  have hw2 : wordB e = true := by unfold wordB; rw [h2, Bool.or_true]
  have hr : runB wordB (118 :: c :: e :: 32 :: R) = 3 := by
    unfold runB
    rw [List.takeWhile_cons, show wordB 118 = true from rfl, if_pos rfl, List.takeWhile_cons, hw, if_pos rfl, List.takeWhile_cons, hw2, if_pos rfl, List.takeWhile_cons, show wordB 32 = false from rfl]
    rfl
  unfold tok
  rw [if_pos (show letB ((118 :: c :: e :: 32 :: R).getD 0 0) = true from rfl), hr, if_neg (by decide)]
  rfl
theorem sc_tail (R : List UInt8) (f a : Nat) (h : skp false R = 0) : scanF (f + 3) (61 :: 32 :: 49 :: 59 :: 32 :: R) a = (⟨4, [61], 0, a⟩ :: ⟨2, [49], oneB, a + 2⟩ :: ⟨4, [59], 0, a + 3⟩ :: (scanF f R (a + 5)).1, (scanF f R (a + 5)).2) := by
  rw [scanF, if_neg (by simp), t_is]
  have k1 : skp false (32 :: 49 :: 59 :: 32 :: R) = 1 := by rfl
  simp only [List.drop_succ_cons, List.drop_zero, k1]
  rw [scanF, if_neg (by simp), t_one]
  have k2 : skp false (59 :: 32 :: R) = 0 := by rfl
  simp only [List.drop_succ_cons, List.drop_zero, k2]
  rw [scanF, if_neg (by simp), t_sem]
  have k3 : skp false (32 :: R) = 1 := by
    rw [skp, if_pos (by decide), h]
  simp only [List.drop_succ_cons, List.drop_zero, k3]
theorem dig_is (n : Nat) (h : n < 10) : flt.isD (UInt8.ofNat (48 + n)) = true := by
  have : ∀ k : Fin 10, flt.isD (UInt8.ofNat (48 + k.val)) = true := by decide
  exact this ⟨n, h⟩
theorem sc_set (i : Nat) (hi : i < 100) (R : List UInt8) (f a : Nat) (h : skp false R = 0) : scanF (f + 5) (setT i ++ R) a = (setK i a ++ (scanF f R (a + 11 + (decT i).length)).1, (scanF f R (a + 11 + (decT i).length)).2) := by
  unfold setT setK decT
  by_cases h10 : i < 10
  · rw [if_pos h10]
    have e1 : [115, 101, 116, 32, 118] ++ [UInt8.ofNat (48 + i)] ++ [32, 61, 32, 49, 59, 32] ++ R = 115 :: 101 :: 116 :: 32 :: 118 :: UInt8.ofNat (48 + i) :: 32 :: 61 :: 32 :: 49 :: 59 :: 32 :: R := rfl
    rw [e1, scanF, if_neg (by simp), t_set]
    have k1 : skp false (32 :: 118 :: UInt8.ofNat (48 + i) :: 32 :: 61 :: 32 :: 49 :: 59 :: 32 :: R) = 1 := by rfl
    simp only [List.drop_succ_cons, List.drop_zero, k1]
    rw [scanF, if_neg (by simp), t_var1 _ _ (dig_is i h10)]
    have k2 : skp false (32 :: 61 :: 32 :: 49 :: 59 :: 32 :: R) = 1 := by rfl
    simp only [List.drop_succ_cons, List.drop_zero, k2]
    rw [sc_tail R f _ h]
    simp [Nat.add_assoc]
  · rw [if_neg h10]
    have e1 : [115, 101, 116, 32, 118] ++ [UInt8.ofNat (48 + i / 10), UInt8.ofNat (48 + i % 10)] ++ [32, 61, 32, 49, 59, 32] ++ R = 115 :: 101 :: 116 :: 32 :: 118 :: UInt8.ofNat (48 + i / 10) :: UInt8.ofNat (48 + i % 10) :: 32 :: 61 :: 32 :: 49 :: 59 :: 32 :: R := rfl
    rw [e1, scanF, if_neg (by simp), t_set]
    have k1 : skp false (32 :: 118 :: UInt8.ofNat (48 + i / 10) :: UInt8.ofNat (48 + i % 10) :: 32 :: 61 :: 32 :: 49 :: 59 :: 32 :: R) = 1 := by rfl
    simp only [List.drop_succ_cons, List.drop_zero, k1]
    rw [scanF, if_neg (by simp), t_var2 _ _ _ (dig_is _ (by omega)) (dig_is _ (by omega))]
    have k2 : skp false (32 :: 61 :: 32 :: 49 :: 59 :: 32 :: R) = 1 := by rfl
    simp only [List.drop_succ_cons, List.drop_zero, k2]
    rw [sc_tail R f _ h]
    simp [Nat.add_assoc]
theorem sets_skp (i n : Nat) : skp false (setsR i n) = 0 := by cases n <;> rfl
theorem sets_scan (n : Nat) : ∀ (i f a : Nat), i + n ≤ 100 → 5 * n < f → scanF f (setsR i n) a = (setKs i n a ++ [⟨0, [], 0, endA i n a⟩], 0, 0) := by
  induction n with
  | zero =>
    intro i f a _ h
    cases f with
    | zero => omega
    | succ f => rw [setsR, scanF, if_pos rfl]; rfl
  | succ n ih =>
    intro i f a hi h
    rw [show f = f - 5 + 5 by omega, setsR, sc_set i (by omega) _ _ _ (sets_skp _ _), ih _ _ _ (by omega) (by omega)]
    rw [setKs, endA, List.append_assoc]
theorem sets_len (n : Nat) : ∀ i, (setsR i n).length ≤ 13 * n ∧ 12 * n ≤ (setsR i n).length := by
  induction n with
  | zero => intro i; simp [setsR]
  | succ n ih =>
    intro i
    have h := ih (i + 1)
    have hl : (setT i).length = 12 ∨ (setT i).length = 13 := by
      unfold setT decT
      split <;> simp
    rw [setsR, List.length_append]
    omega
theorem sets_tokens (n : Nat) (h : n ≤ 100) : scanL (setTs n) = (setKs 0 n 0 ++ [⟨0, [], 0, endA 0 n 0⟩], 0, 0) := by
  rw [← setsR_all]
  have hl := sets_len n 0
  unfold scanL
  rw [if_neg (by omega), sets_skp, List.drop_zero, sets_scan n 0 _ 0 (by omega) (by omega)]
/-- The check of a script whose tokens are known. -/
def chkE (E : PE) (f m : Nat) : Option (Int × Int) := match stmtsR E f m [] st0 with
  | some (ks, s) => if s.code = 0 then (match nodeP fnT (.mk 8 [] 0 ks 0) [] with
    | .ok _ => some (0, 0)
    | .error e => some e) else none
  | none => none
theorem sets_low : ((List.range 16).all fun c => match chkE ⟨setKs 0 (20 + c) 0 ++ [⟨0, [], 0, endA 0 (20 + c) 0⟩], 0, 0⟩ 3000 60 with
    | some (a, e) => if 20 + c ≤ 32 then a == 0 && e == 0 else e == 2004 && decide (384 ≤ a)
    | none => false) = true := by decide +kernel
theorem sets_high : ((List.range 16).all fun c => match chkE ⟨setKs 0 (36 + c) 0 ++ [⟨0, [], 0, endA 0 (36 + c) 0⟩], 0, 0⟩ 3000 60 with
    | some (a, e) => if 36 + c ≤ 32 then a == 0 && e == 0 else e == 2004 && decide (384 ≤ a)
    | none => false) = true := by decide +kernel
end Go.Proofs.Ytkcgldpedfafpaa.many
