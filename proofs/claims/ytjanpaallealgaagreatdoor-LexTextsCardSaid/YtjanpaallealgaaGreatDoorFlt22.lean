/-
  Proved: what the document's own OfText returns (its ways written by wip/bin/rof.py). Conditions: as each theorem says.
-/
import Derived.Test.YtjanpaallealgaaGreatDoorFlt21
namespace Go.Proofs.YtjanpaallealgaaGreatDoor.flt
open Go.RowKit Ieee
open num (ofDecV ofDecX ofDecE rOfDec_any ofDec_no ofDec_yes ret_pair)
set_option linter.unusedVariables false
set_option maxRecDepth 100000

attribute [local go_sem] run_bits run_frombits in
theorem Inf_neg (w : World) : Calls Tryz.prog 33 #[.int .i64 (-1)] w fun e w' => e = .returned (fv 18442240474082181120) ∧ w = w' := by
  go_enter Tryz.func33, Tryz.ntmps33
  go_wp2_with fail
  go_ret
  exact ⟨rfl, rfl⟩
theorem rof_nan (S : ByteArray) (w : World) (hn : (S.toList == [110, 97, 110]) = true) : Calls Tryz.prog 46 #[.string S] w fun e w' => e = .returned (.tuple #[fv 9221120237041090561, .int .i64 0]) ∧ Below w.heap.size w w' := by
  go_enter Tryz.func46, Tryz.ntmps46
  go_wp2_with (go_at_call 32; refine (NaN_any _).mono ?_; rintro e w1 ⟨rfl, rfl⟩)
  go_ret2
  exact ⟨rfl, Below.refl _ _⟩
theorem rof_inf (S : ByteArray) (w : World) (hn : (S.toList == [110, 97, 110]) = false) (hi : (S.toList == [105, 110, 102]) = true) : Calls Tryz.prog 46 #[.string S] w fun e w' => e = .returned (.tuple #[fv 9218868437227405312, .int .i64 0]) ∧ Below w.heap.size w w' := by
  go_enter Tryz.func46, Tryz.ntmps46
  go_wp2_with (go_at_call 33; refine (Inf_pos _).mono ?_; rintro e w1 ⟨rfl, rfl⟩)
  go_ret2
  exact ⟨rfl, Below.refl _ _⟩
theorem rof_ninf (S : ByteArray) (w : World) (hn : (S.toList == [110, 97, 110]) = false) (hi : (S.toList == [105, 110, 102]) = false) (hj : (S.toList == [45, 105, 110, 102]) = true) : Calls Tryz.prog 46 #[.string S] w fun e w' => e = .returned (.tuple #[fv 18442240474082181120, .int .i64 0]) ∧ Below w.heap.size w w' := by
  go_enter Tryz.func46, Tryz.ntmps46
  go_wp2_with (go_at_call 33; refine (Inf_neg _).mono ?_; rintro e w1 ⟨rfl, rfl⟩)
  go_ret2
  exact ⟨rfl, Below.refl _ _⟩
theorem rof_dec_n (S T : ByteArray) (a b c : Nat) (w : World) (hn : (S.toList == [110, 97, 110]) = false) (hi : (S.toList == [105, 110, 102]) = false) (hj : (S.toList == [45, 105, 110, 102]) = false) (hz : S.size ≤ 1000000000000000000) (h0 : 0 < S.size) (hh : ((S[0].toNat : Int) == 45) = true) (hT : S.extract 1 S.size = T) (hlt : T.size < S.size)
    (HC : Hid (∀ W, Calls Tryz.prog 62 #[.string T] W fun e w' => e = .returned (.tuple #[fv a, .bool true]) ∧ W = w')) (h64 : a < 18446744073709551616) :
    Calls Tryz.prog 46 #[.string S] w fun e w' => e = .returned (.tuple #[fv (ng a), .int .i64 0]) ∧ Below w.heap.size w w' := by
  have HN := Lib.hid (fun W => rNeg_any a W h64)
  clear h64
  have hlt2 : decide (T.size < S.size) = true := decide_eq_true hlt
  go_enter Tryz.func46, Tryz.ntmps46
  go_wp2_with (first | (go_at_call 62; refine (HC.out _).mono ?_; rintro e w1 ⟨rfl, rfl⟩) | (go_at_call 65; refine (HN.out _).mono ?_; rintro e w4 ⟨rfl, rfl⟩))
  go_ret2
  exact ⟨rfl, Below.refl _ _⟩
theorem rof_pow_n (S T : ByteArray) (a b c : Nat) (w : World) (hn : (S.toList == [110, 97, 110]) = false) (hi : (S.toList == [105, 110, 102]) = false) (hj : (S.toList == [45, 105, 110, 102]) = false) (hz : S.size ≤ 1000000000000000000) (h0 : 0 < S.size) (hh : ((S[0].toNat : Int) == 45) = true) (hT : S.extract 1 S.size = T) (hlt : T.size < S.size)
    (HC : Hid (∀ W, Calls Tryz.prog 62 #[.string T] W fun e w' => e = .returned (.tuple #[fv a, .bool false]) ∧ W = w'))
    (HW : Hid (∀ W, Calls Tryz.prog 63 #[.string T] W fun e w' => e = .returned (.tuple #[fv b, .bool true]) ∧ Below W.heap.size W w')) (h64 : b < 18446744073709551616) :
    Calls Tryz.prog 46 #[.string S] w fun e w' => e = .returned (.tuple #[fv (ng b), .int .i64 0]) ∧ Below w.heap.size w w' := by
  have HN := Lib.hid (fun W => rNeg_any b W h64)
  clear h64
  have hlt2 : decide (T.size < S.size) = true := decide_eq_true hlt
  go_enter Tryz.func46, Tryz.ntmps46
  go_wp2_with (first | (go_at_call 62; refine (HC.out _).mono ?_; rintro e w1 ⟨rfl, rfl⟩) | (go_at_call 63; refine (HW.out _).mono ?_; rintro e w2 ⟨rfl, hb2⟩) | (go_at_call 65; refine (HN.out _).mono ?_; rintro e w4 ⟨rfl, rfl⟩))
  go_ret2
  exact ⟨rfl, hb2⟩
theorem rof_long_n (S T : ByteArray) (a b c : Nat) (w : World) (hn : (S.toList == [110, 97, 110]) = false) (hi : (S.toList == [105, 110, 102]) = false) (hj : (S.toList == [45, 105, 110, 102]) = false) (hz : S.size ≤ 1000000000000000000) (h0 : 0 < S.size) (hh : ((S[0].toNat : Int) == 45) = true) (hT : S.extract 1 S.size = T) (hlt : T.size < S.size)
    (HC : Hid (∀ W, Calls Tryz.prog 62 #[.string T] W fun e w' => e = .returned (.tuple #[fv a, .bool false]) ∧ W = w'))
    (HW : Hid (∀ W, Calls Tryz.prog 63 #[.string T] W fun e w' => e = .returned (.tuple #[fv b, .bool false]) ∧ Below W.heap.size W w'))
    (HG : Hid (∀ W, Calls Tryz.prog 64 #[.string T] W fun e w' => e = .returned (.tuple #[fv c, .bool true]) ∧ W = w')) (h64 : c < 18446744073709551616) :
    Calls Tryz.prog 46 #[.string S] w fun e w' => e = .returned (.tuple #[fv (ng c), .int .i64 0]) ∧ Below w.heap.size w w' := by
  have HN := Lib.hid (fun W => rNeg_any c W h64)
  clear h64
  have hlt2 : decide (T.size < S.size) = true := decide_eq_true hlt
  go_enter Tryz.func46, Tryz.ntmps46
  go_wp2_with (first | (go_at_call 62; refine (HC.out _).mono ?_; rintro e w1 ⟨rfl, rfl⟩) | (go_at_call 63; refine (HW.out _).mono ?_; rintro e w2 ⟨rfl, hb2⟩) | (go_at_call 64; refine (HG.out _).mono ?_; rintro e w3 ⟨rfl, rfl⟩) | (go_at_call 65; refine (HN.out _).mono ?_; rintro e w4 ⟨rfl, rfl⟩))
  go_ret2
  exact ⟨rfl, hb2⟩
theorem rof_fail_n (S T : ByteArray) (a b c : Nat) (w : World) (hn : (S.toList == [110, 97, 110]) = false) (hi : (S.toList == [105, 110, 102]) = false) (hj : (S.toList == [45, 105, 110, 102]) = false) (hz : S.size ≤ 1000000000000000000) (h0 : 0 < S.size) (hh : ((S[0].toNat : Int) == 45) = true) (hT : S.extract 1 S.size = T) (hlt : T.size < S.size)
    (HC : Hid (∀ W, Calls Tryz.prog 62 #[.string T] W fun e w' => e = .returned (.tuple #[fv a, .bool false]) ∧ W = w'))
    (HW : Hid (∀ W, Calls Tryz.prog 63 #[.string T] W fun e w' => e = .returned (.tuple #[fv b, .bool false]) ∧ Below W.heap.size W w'))
    (HG : Hid (∀ W, Calls Tryz.prog 64 #[.string T] W fun e w' => e = .returned (.tuple #[fv c, .bool false]) ∧ W = w')) :
    Calls Tryz.prog 46 #[.string S] w fun e w' => e = .returned (.tuple #[fv 0, .int .i64 200]) ∧ Below w.heap.size w w' := by
  have hlt2 : decide (T.size < S.size) = true := decide_eq_true hlt
  go_enter Tryz.func46, Tryz.ntmps46
  go_wp2_with (first | (go_at_call 62; refine (HC.out _).mono ?_; rintro e w1 ⟨rfl, rfl⟩) | (go_at_call 63; refine (HW.out _).mono ?_; rintro e w2 ⟨rfl, hb2⟩) | (go_at_call 64; refine (HG.out _).mono ?_; rintro e w3 ⟨rfl, rfl⟩))
  go_ret2
  exact ⟨rfl, hb2⟩
theorem rof_dec_p (S T : ByteArray) (a b c : Nat) (w : World) (hn : (S.toList == [110, 97, 110]) = false) (hi : (S.toList == [105, 110, 102]) = false) (hj : (S.toList == [45, 105, 110, 102]) = false) (hz : S.size ≤ 1000000000000000000) (h0 : 0 < S.size) (hh : ((S[0].toNat : Int) == 45) = false) (hT : S = T)
    (HC : Hid (∀ W, Calls Tryz.prog 62 #[.string T] W fun e w' => e = .returned (.tuple #[fv a, .bool true]) ∧ W = w')) :
    Calls Tryz.prog 46 #[.string S] w fun e w' => e = .returned (.tuple #[fv a, .int .i64 0]) ∧ Below w.heap.size w w' := by
  subst hT
  go_enter Tryz.func46, Tryz.ntmps46
  go_wp2_with (first | (go_at_call 62; refine (HC.out _).mono ?_; rintro e w1 ⟨rfl, rfl⟩))
  go_ret2
  exact ⟨rfl, Below.refl _ _⟩
theorem rof_pow_p (S T : ByteArray) (a b c : Nat) (w : World) (hn : (S.toList == [110, 97, 110]) = false) (hi : (S.toList == [105, 110, 102]) = false) (hj : (S.toList == [45, 105, 110, 102]) = false) (hz : S.size ≤ 1000000000000000000) (h0 : 0 < S.size) (hh : ((S[0].toNat : Int) == 45) = false) (hT : S = T)
    (HC : Hid (∀ W, Calls Tryz.prog 62 #[.string T] W fun e w' => e = .returned (.tuple #[fv a, .bool false]) ∧ W = w'))
    (HW : Hid (∀ W, Calls Tryz.prog 63 #[.string T] W fun e w' => e = .returned (.tuple #[fv b, .bool true]) ∧ Below W.heap.size W w')) :
    Calls Tryz.prog 46 #[.string S] w fun e w' => e = .returned (.tuple #[fv b, .int .i64 0]) ∧ Below w.heap.size w w' := by
  subst hT
  go_enter Tryz.func46, Tryz.ntmps46
  go_wp2_with (first | (go_at_call 62; refine (HC.out _).mono ?_; rintro e w1 ⟨rfl, rfl⟩) | (go_at_call 63; refine (HW.out _).mono ?_; rintro e w2 ⟨rfl, hb2⟩))
  go_ret2
  exact ⟨rfl, hb2⟩
theorem rof_long_p (S T : ByteArray) (a b c : Nat) (w : World) (hn : (S.toList == [110, 97, 110]) = false) (hi : (S.toList == [105, 110, 102]) = false) (hj : (S.toList == [45, 105, 110, 102]) = false) (hz : S.size ≤ 1000000000000000000) (h0 : 0 < S.size) (hh : ((S[0].toNat : Int) == 45) = false) (hT : S = T)
    (HC : Hid (∀ W, Calls Tryz.prog 62 #[.string T] W fun e w' => e = .returned (.tuple #[fv a, .bool false]) ∧ W = w'))
    (HW : Hid (∀ W, Calls Tryz.prog 63 #[.string T] W fun e w' => e = .returned (.tuple #[fv b, .bool false]) ∧ Below W.heap.size W w'))
    (HG : Hid (∀ W, Calls Tryz.prog 64 #[.string T] W fun e w' => e = .returned (.tuple #[fv c, .bool true]) ∧ W = w')) :
    Calls Tryz.prog 46 #[.string S] w fun e w' => e = .returned (.tuple #[fv c, .int .i64 0]) ∧ Below w.heap.size w w' := by
  subst hT
  go_enter Tryz.func46, Tryz.ntmps46
  go_wp2_with (first | (go_at_call 62; refine (HC.out _).mono ?_; rintro e w1 ⟨rfl, rfl⟩) | (go_at_call 63; refine (HW.out _).mono ?_; rintro e w2 ⟨rfl, hb2⟩) | (go_at_call 64; refine (HG.out _).mono ?_; rintro e w3 ⟨rfl, rfl⟩))
  go_ret2
  exact ⟨rfl, hb2⟩
theorem rof_fail_p (S T : ByteArray) (a b c : Nat) (w : World) (hn : (S.toList == [110, 97, 110]) = false) (hi : (S.toList == [105, 110, 102]) = false) (hj : (S.toList == [45, 105, 110, 102]) = false) (hz : S.size ≤ 1000000000000000000) (h0 : 0 < S.size) (hh : ((S[0].toNat : Int) == 45) = false) (hT : S = T)
    (HC : Hid (∀ W, Calls Tryz.prog 62 #[.string T] W fun e w' => e = .returned (.tuple #[fv a, .bool false]) ∧ W = w'))
    (HW : Hid (∀ W, Calls Tryz.prog 63 #[.string T] W fun e w' => e = .returned (.tuple #[fv b, .bool false]) ∧ Below W.heap.size W w'))
    (HG : Hid (∀ W, Calls Tryz.prog 64 #[.string T] W fun e w' => e = .returned (.tuple #[fv c, .bool false]) ∧ W = w')) :
    Calls Tryz.prog 46 #[.string S] w fun e w' => e = .returned (.tuple #[fv 0, .int .i64 200]) ∧ Below w.heap.size w w' := by
  subst hT
  go_enter Tryz.func46, Tryz.ntmps46
  go_wp2_with (first | (go_at_call 62; refine (HC.out _).mono ?_; rintro e w1 ⟨rfl, rfl⟩) | (go_at_call 63; refine (HW.out _).mono ?_; rintro e w2 ⟨rfl, hb2⟩) | (go_at_call 64; refine (HG.out _).mono ?_; rintro e w3 ⟨rfl, rfl⟩))
  go_ret2
  exact ⟨rfl, hb2⟩
theorem rof_fail_e (S T : ByteArray) (a b c : Nat) (w : World) (hn : (S.toList == [110, 97, 110]) = false) (hi : (S.toList == [105, 110, 102]) = false) (hj : (S.toList == [45, 105, 110, 102]) = false) (hz : S.size ≤ 1000000000000000000) (h0 : ¬ 0 < S.size) (hT : S = T)
    (HC : Hid (∀ W, Calls Tryz.prog 62 #[.string T] W fun e w' => e = .returned (.tuple #[fv a, .bool false]) ∧ W = w'))
    (HW : Hid (∀ W, Calls Tryz.prog 63 #[.string T] W fun e w' => e = .returned (.tuple #[fv b, .bool false]) ∧ Below W.heap.size W w'))
    (HG : Hid (∀ W, Calls Tryz.prog 64 #[.string T] W fun e w' => e = .returned (.tuple #[fv c, .bool false]) ∧ W = w')) :
    Calls Tryz.prog 46 #[.string S] w fun e w' => e = .returned (.tuple #[fv 0, .int .i64 200]) ∧ Below w.heap.size w w' := by
  subst hT
  go_enter Tryz.func46, Tryz.ntmps46
  go_wp2_with (first | (go_at_call 62; refine (HC.out _).mono ?_; rintro e w1 ⟨rfl, rfl⟩) | (go_at_call 63; refine (HW.out _).mono ?_; rintro e w2 ⟨rfl, hb2⟩) | (go_at_call 64; refine (HG.out _).mono ?_; rintro e w3 ⟨rfl, rfl⟩))
  go_ret2
  exact ⟨rfl, hb2⟩
/-- What OfText answers. -/
def rofT (l : List UInt8) : Option Nat := if l = nanL then some NANB else if l = infL then some 9218868437227405312 else if l = 45 :: infL then some 18442240474082181120 else
  if decOkL (bodyL l) then some (signV l (decVL (bodyL l))) else if (rpowP (bodyL l)).2 then some (signV l (rpowP (bodyL l)).1) else if (rlongP (bodyL l)).2 then some (signV l (rlongP (bodyL l)).1) else none
def rofE (l : List UInt8) : Value := match rofT l with
  | some a => .tuple #[fv a, .int .i64 0]
  | none => .tuple #[fv 0, .int .i64 200]
theorem rpowP_le (l : List UInt8) : (rpowP l).1 ≤ INF := by
  unfold rpowP
  split
  · exact Nat.zero_le _
  · split
    · exact Nat.zero_le _
    · split
      · exact itr_le _ _ _ (fl_inf _)
      · exact Nat.zero_le _
theorem rlongP_le (l : List UInt8) : (rlongP l).1 ≤ INF := fl_inf _
theorem rOfText_any (l : List UInt8) (w : World) (hs : l.length ≤ 1000000000000000000) :
    Calls Tryz.prog 46 #[.string ⟨l.toArray⟩] w fun e w' => e = .returned (rofE l) ∧ Below w.heap.size w w' := by
  have hS : (⟨l.toArray⟩ : ByteArray).size = l.length := str_size l
  have hT : ∀ k : List UInt8, ((⟨l.toArray⟩ : ByteArray).toList == k) = decide (l = k) := fun k => by rw [Lib.toList_data]; rw [Bool.eq_iff_iff, beq_iff_eq, decide_eq_true_iff]
  have go : ∀ v, rofE l = v → Calls Tryz.prog 46 #[.string ⟨l.toArray⟩] w (fun e w' => e = .returned v ∧ Below w.heap.size w w') → Calls Tryz.prog 46 #[.string ⟨l.toArray⟩] w fun e w' => e = .returned (rofE l) ∧ Below w.heap.size w w' := fun v h1 h2 => by rw [h1]; exact h2
  by_cases h1 : l = nanL
  · exact go _ (by unfold rofE rofT; rw [if_pos h1]; rfl) (rof_nan _ w (by rw [hT]; exact decide_eq_true h1))
  have q1 : ((⟨l.toArray⟩ : ByteArray).toList == [110, 97, 110]) = false := by rw [hT]; exact decide_eq_false h1
  by_cases h2 : l = infL
  · exact go _ (by unfold rofE rofT; rw [if_neg h1, if_pos h2]) (rof_inf _ w q1 (by rw [hT]; exact decide_eq_true h2))
  have q2 : ((⟨l.toArray⟩ : ByteArray).toList == [105, 110, 102]) = false := by rw [hT]; exact decide_eq_false h2
  by_cases h3 : l = 45 :: infL
  · exact go _ (by unfold rofE rofT; rw [if_neg h1, if_neg h2, if_pos h3]) (rof_ninf _ w q1 q2 (by rw [hT]; exact decide_eq_true h3))
  have q3 : ((⟨l.toArray⟩ : ByteArray).toList == [45, 105, 110, 102]) = false := by rw [hT]; exact decide_eq_false h3
  have e0 : rofT l = (if decOkL (bodyL l) then some (signV l (decVL (bodyL l))) else if (rpowP (bodyL l)).2 then some (signV l (rpowP (bodyL l)).1) else if (rlongP (bodyL l)).2 then some (signV l (rlongP (bodyL l)).1) else none) := by
    unfold rofT; rw [if_neg h1, if_neg h2, if_neg h3]
  have hbl : (bodyL l).length ≤ l.length := trim_len l [45]
  have HC : Hid (∀ W, Calls Tryz.prog 62 #[.string ⟨(bodyL l).toArray⟩] W fun e w' => e = .returned (.tuple #[fv (decVL (bodyL l)), .bool (decOkL (bodyL l))]) ∧ W = w') := fun W => rdecimal_all (bodyL l) W (Nat.le_trans hbl hs)
  have HW : Hid (∀ W, Calls Tryz.prog 63 #[.string ⟨(bodyL l).toArray⟩] W fun e w' => e = .returned (.tuple #[fv (rpowP (bodyL l)).1, .bool (rpowP (bodyL l)).2]) ∧ Below W.heap.size W w') := fun W => powers_all (bodyL l) W (Nat.le_trans hbl hs)
  have HG : Hid (∀ W, Calls Tryz.prog 64 #[.string ⟨(bodyL l).toArray⟩] W fun e w' => e = .returned (.tuple #[fv (rlongP (bodyL l)).1, .bool (rlongP (bodyL l)).2]) ∧ W = w') := fun W => long_all (bodyL l) W (Nat.le_trans hbl hs)
  have hz : (⟨l.toArray⟩ : ByteArray).size ≤ 1000000000000000000 := by rw [hS]; exact hs
  have i64 : INF < 18446744073709551616 := by decide
  have l1 := decVL_lt (bodyL l)
  have l2 := Nat.lt_of_le_of_lt (rpowP_le (bodyL l)) i64
  have l3 := Nat.lt_of_le_of_lt (rlongP_le (bodyL l)) i64
  cases hneg : Lib.hasPrefix l [45]
  · have hb : bodyL l = l := by unfold bodyL Lib.trimPrefix; rw [hneg]; rfl
    have hsg : ∀ a, signV l a = a := fun a => by unfold signV; rw [hb, if_neg (by omega)]
    rw [hb] at HC HW HG e0 l1 l2 l3
    simp only [hsg] at e0
    by_cases hl0 : l.length = 0
    · have hnil : l = [] := List.eq_nil_of_length_eq_zero hl0
      refine go _ ?_ (rof_fail_e _ _ _ _ _ w q1 q2 q3 hz (by rw [hS]; omega) rfl (by rw [hnil] at HC ⊢; exact HC) (by rw [hnil] at HW ⊢; exact HW) (by rw [hnil] at HG ⊢; exact HG))
      unfold rofE; rw [e0, hnil]; rfl
    · have hh0 : 0 < (⟨l.toArray⟩ : ByteArray).size := by rw [hS]; omega
      have hh : (((⟨l.toArray⟩ : ByteArray)[0].toNat : Int) == 45) = false := by
        rw [← get_list (SS := ⟨l.toArray⟩) (L := l) rfl 0 hh0]
        refine beq_eq_false_iff_ne.2 fun e => ?_
        have : Lib.hasPrefix l [45] = true := by
          rw [pre_head]
          cases l with
          | nil => simp at hl0
          | cons c r =>
            refine ⟨r, ?_⟩
            have : c = 45 := by
              apply UInt8.toNat_inj.1
              have e45 : (45 : UInt8).toNat = 45 := rfl
              have e2 : ((c.toNat : Nat) : Int) = 45 := e
              omega
            rw [this]
        rw [hneg] at this; cases this
      cases hd : decOkL l
      · rw [hd] at HC
        rw [hd, if_neg Bool.false_ne_true] at e0
        cases hp : (rpowP l).2
        · rw [hp] at HW
          rw [hp, if_neg Bool.false_ne_true] at e0
          cases hg : (rlongP l).2
          · rw [hg] at HG
            rw [hg, if_neg Bool.false_ne_true] at e0
            exact go _ (by unfold rofE; rw [e0]) (rof_fail_p _ _ _ _ _ w q1 q2 q3 hz hh0 hh rfl HC HW HG)
          · rw [hg] at HG
            rw [hg, if_pos rfl] at e0
            exact go _ (by unfold rofE; rw [e0]) (rof_long_p _ _ _ _ _ w q1 q2 q3 hz hh0 hh rfl HC HW HG)
        · rw [hp] at HW
          rw [hp, if_pos rfl] at e0
          exact go _ (by unfold rofE; rw [e0]) (rof_pow_p _ _ _ _ 0 w q1 q2 q3 hz hh0 hh rfl HC HW)
      · rw [hd] at HC
        rw [hd, if_pos rfl] at e0
        exact go _ (by unfold rofE; rw [e0]) (rof_dec_p _ _ _ 0 0 w q1 q2 q3 hz hh0 hh rfl HC)
  · obtain ⟨t, rfl⟩ := (pre_head l).1 hneg
    have hb : bodyL (45 :: t) = t := by unfold bodyL Lib.trimPrefix; rw [hneg]; rfl
    have hsg : ∀ a, signV (45 :: t) a = ng a := fun a => by unfold signV; rw [hb, if_pos (by simp)]
    rw [hb] at HC HW HG e0 l1 l2 l3
    simp only [hsg] at e0
    have hh0 : 0 < (⟨(45 :: t).toArray⟩ : ByteArray).size := by rw [hS]; simp
    have hh : (((⟨(45 :: t).toArray⟩ : ByteArray)[0].toNat : Int) == 45) = true := rfl
    have hTT : (⟨(45 :: t).toArray⟩ : ByteArray).extract 1 (⟨(45 :: t).toArray⟩ : ByteArray).size = ⟨t.toArray⟩ := ext_drop (45 :: t) 1 _ hS
    have hlt : (⟨t.toArray⟩ : ByteArray).size < (⟨(45 :: t).toArray⟩ : ByteArray).size := by rw [hS, str_size]; simp
    cases hd : decOkL t
    · rw [hd] at HC
      rw [hd, if_neg Bool.false_ne_true] at e0
      cases hp : (rpowP t).2
      · rw [hp] at HW
        rw [hp, if_neg Bool.false_ne_true] at e0
        cases hg : (rlongP t).2
        · rw [hg] at HG
          rw [hg, if_neg Bool.false_ne_true] at e0
          exact go _ (by unfold rofE; rw [e0]) (rof_fail_n _ _ _ _ _ w q1 q2 q3 hz hh0 hh hTT hlt HC HW HG)
        · rw [hg] at HG
          rw [hg, if_pos rfl] at e0
          exact go _ (by unfold rofE; rw [e0]) (rof_long_n _ _ _ _ _ w q1 q2 q3 hz hh0 hh hTT hlt HC HW HG l3)
      · rw [hp] at HW
        rw [hp, if_pos rfl] at e0
        exact go _ (by unfold rofE; rw [e0]) (rof_pow_n _ _ _ _ 0 w q1 q2 q3 hz hh0 hh hTT hlt HC HW l2)
    · rw [hd] at HC
      rw [hd, if_pos rfl] at e0
      exact go _ (by unfold rofE; rw [e0]) (rof_dec_n _ _ _ 0 0 w q1 q2 q3 hz hh0 hh hTT hlt HC l1)
end Go.Proofs.YtjanpaallealgaaGreatDoor.flt
