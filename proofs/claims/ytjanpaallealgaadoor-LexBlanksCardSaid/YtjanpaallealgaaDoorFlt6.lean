/-
  Proved: what Abs, IsInf, IsNaN, normalize, Frexp and Ldexp of package math return. Conditions: as each theorem says.
-/
import Derived.Test.YtjanpaallealgaaDoorFlt3
import Derived.Test.YtjanpaallealgaaDoorFltMod
import Derived.Test.YtjanpaallealgaaDoorNum2F
import Derived.IntWalk
namespace Go.Proofs.YtjanpaallealgaaDoor.flt
open Go.RowKit Ieee
set_option linter.unusedVariables false
set_option maxRecDepth 100000
attribute [local go_sem] run_bits run_frombits

theorem Abs_any (a : Nat) (w : World) (h : a < 18446744073709551616) : Calls Tryd.prog 83 #[fv a] w fun e w' => e = .returned (fv (rung a)) ∧ w = w' := by
  have hb := bits_size a h
  have hr : a % 9223372036854775808 = rung a := rfl
  rw [hr] at hb
  generalize rung a = r at *
  clear hr
  go_enter Tryd.func83, Tryd.ntmps83
  go_wp2_with fail
  go_ret
  exact ⟨rfl, rfl⟩
def infB (a : Nat) : Bool := double.order (rung a) 9218868437227405311 == some .gt
theorem IsInf_any (a : Nat) (w : World) (h : a < 18446744073709551616) : Calls Tryd.prog 70 #[fv a, .int .i64 0] w fun e w' => e = .returned (.bool (infB a)) ∧ w = w' := by
  have HA := Lib.hid (fun W => Abs_any a W h)
  unfold infB
  generalize rung a = r at *
  go_enter Tryd.func70, Tryd.ntmps70
  go_wp2_with (go_at_call 83; refine (HA.out _).mono ?_; rintro e w1 ⟨rfl, rfl⟩)
  go_ret
  exact ⟨rfl, rfl⟩
theorem IsNaN_any (a : Nat) (w : World) : Calls Tryd.prog 71 #[fv a] w fun e w' => e = .returned (.bool (nanB a)) ∧ w = w' := by
  have h := neR (a := a) (c := a) (b := !nanB a) (order_self a)
  rw [Bool.not_not] at h
  generalize nanB a = b at *
  go_enter Tryd.func71, Tryd.ntmps71
  go_wp2_with fail
  go_ret
  exact ⟨rfl, rfl⟩
theorem gt_false (a M : Nat) (ha : a < INF) (hM : M < INF) (h : a ≤ M) : (double.order a M == some .gt) = false := by
  rw [order_fin _ _ (pfin _ ha).1 (pfin _ hM).1, pval _ ha, pval _ hM]
  have := (mg_le_iff a M).2 h
  have h3 : ¬ compare (mg a : Int) (mg M : Int) = .gt := by
    intro hc
    have := (cmp_le (mg a : Int) (mg M : Int)).2 (by omega)
    rw [hc] at this
    simp at this
  simpa using h3
theorem infB_fin (a : Nat) (h : fin a) : infB a = false := by
  have h1 : rung a < 9218868437227405312 := h.2
  exact gt_false (rung a) 9218868437227405311 h1 (by unfold INF; omega) (by omega)
theorem nan_fin (a : Nat) (h : fin a) : nanB a = false := by unfold nanB; rw [read_fin a h]; rfl
theorem p52_ok : (4841369599423283200 : Nat) < INF ∧ sg 4841369599423283200 = 4503599627370496 ∧ pl 4841369599423283200 = 1074 := by decide
theorem mg_p52 : mg 4841369599423283200 = 4503599627370496 * 2 ^ PP := by
  rw [← mg_def, p52_ok.2.1, p52_ok.2.2, hPP]
theorem nrm_mul (a : Nat) (h0 : 0 < a) (h : a < 4503599627370496) : fop .mul a 4841369599423283200 = some (nrm a) := by
  have hn := nrm_ok a h0 (by unfold INF; omega)
  refine mul_exact a _ _ (by unfold INF; omega) p52_ok.1 hn.2.1 ?_
  rw [mg_p52, hn.2.2]
  unfold nc
  rw [if_pos h, pow52, Nat.mul_assoc]
theorem ltR' {a c : Nat} {b : Bool} (h : (double.order a c == some Ordering.lt) = b) : (FloatKind.f64.format.order a c == some Ordering.lt) = b := h
theorem normalize_any (a : Nat) (w : World) (h0 : 0 < a) (h : a < INF) : Calls Tryd.prog 72 #[fv a] w fun e w' => e = .returned (.tuple #[fv (nrm a), .int .i64 (-(nc a : Int))]) ∧ w = w' := by
  have HA := Lib.hid (fun W => Abs_any a W (by unfold INF at h; omega))
  rw [(pfin a h).2.1] at HA
  have hl := ltB_pos a 4503599627370496 h (by unfold INF; omega)
  by_cases h1 : a < 4503599627370496
  · have hm := fun W => run_float_arith (P := Tryd.prog) W .mul 28 .f64 a 4841369599423283200 (nrm a) (nrm_mul a h0 h1)
    have hc : nc a = 52 := by unfold nc; rw [if_pos h1]
    rw [hc]
    rw [decide_eq_true h1] at hl
    replace hl := ltR' hl
    generalize nrm a = b at *
    clear h0 h h1 hc
    go_enter Tryd.func72, Tryd.ntmps72
    go_wp2_with (go_at_call 83; refine (HA.out _).mono ?_; rintro e w1 ⟨rfl, rfl⟩)
    go_ret2
    exact ⟨rfl, rfl⟩
  · have hn : nrm a = a := by unfold nrm; rw [if_neg h1]
    have hc : nc a = 0 := by unfold nc; rw [if_neg h1]
    rw [hc, hn]
    rw [decide_eq_false h1] at hl
    replace hl := ltR' hl
    clear h0 h h1 hc hn
    go_enter Tryd.func72, Tryd.ntmps72
    go_wp2_with (go_at_call 83; refine (HA.out _).mono ?_; rintro e w1 ⟨rfl, rfl⟩)
    go_ret2
    exact ⟨rfl, rfl⟩
theorem or_field (F n : Nat) (hF : F < 4503599627370496) (hn : n < 2048) : bits .or .u64 (F : Int) ((n * 4503599627370496 : Nat) : Int) = (F + n * 4503599627370496 : Nat) := by
  have e : (BitVec.ofInt 64 (F : Int) ||| BitVec.ofInt 64 ((n * 4503599627370496 : Nat) : Int)).toNat = F + n * 4503599627370496 := by
    rw [BitVec.toNat_or, BitVec.ofInt_natCast, BitVec.toNat_ofNat, Nat.mod_eq_of_lt (by omega), BitVec.ofInt_natCast, BitVec.toNat_ofNat, Nat.mod_eq_of_lt (by omega), Nat.or_comm]
    have := Nat.two_pow_add_eq_or_of_lt (i := 52) (b := F) hF n
    rw [show n * 4503599627370496 = 2 ^ 52 * n by rw [pow52]; omega, ← this, pow52]
    omega
  show IntKind.u64.wrap (((BitVec.ofInt 64 (F : Int) ||| BitVec.ofInt 64 ((n * 4503599627370496 : Nat) : Int)).toNat : Nat) : Int) = _
  rw [e, IntKind.wrap_u64]
  omega
theorem or_fieldI (F n : Nat) (hF : F < 4503599627370496) (hn : n < 2048) : bits .or .u64 (F : Int) ((n : Int) * 4503599627370496) = (F + n * 4503599627370496 : Nat) := by
  have := or_field F n hF hn
  rwa [show ((n * 4503599627370496 : Nat) : Int) = (n : Int) * 4503599627370496 by omega] at this
theorem not_field (a : Nat) (h : a < 9223372036854775808) : bits .andNot .u64 (a : Int) 9218868437227405312 = (a % 4503599627370496 : Nat) := by
  have e : (BitVec.ofInt 64 (a : Int) &&& ~~~ BitVec.ofInt 64 9218868437227405312).toNat = a % 4503599627370496 := by
    have e1 : (BitVec.ofInt 64 (a : Int) &&& ~~~ BitVec.ofInt 64 9218868437227405312) = BitVec.ofNat 64 (a % 4503599627370496) := by
      have e2 : ~~~ BitVec.ofInt 64 9218868437227405312 = BitVec.ofNat 64 9227875636482146303 := by decide
      rw [e2]
      apply BitVec.eq_of_toNat_eq
      rw [BitVec.toNat_and, BitVec.ofInt_natCast, BitVec.toNat_ofNat, Nat.mod_eq_of_lt (by omega), BitVec.toNat_ofNat, BitVec.toNat_ofNat, Nat.mod_eq_of_lt (show a % 4503599627370496 < 2 ^ 64 by omega)]
      have e3 : (9227875636482146303 : Nat) % 2 ^ 64 = 2 ^ 63 + (2 ^ 52 - 1) := by decide
      rw [e3]
      apply Nat.eq_of_testBit_eq
      intro i
      rw [Nat.testBit_and, show (4503599627370496 : Nat) = 2 ^ 52 from pow52.symm, Nat.testBit_mod_two_pow]
      by_cases h63 : i < 63
      · rw [Nat.testBit_two_pow_add_gt h63, Nat.testBit_two_pow_sub_one, Bool.and_comm]
      · have h2i : 2 ^ 63 ≤ 2 ^ i := Nat.pow_le_pow_right (by decide) (by omega)
        have hb : a < 2 ^ i := Nat.lt_of_lt_of_le h h2i
        rw [Nat.testBit_lt_two_pow hb]; simp
    rw [e1, BitVec.toNat_ofNat, Nat.mod_eq_of_lt (by omega)]
  show IntKind.u64.wrap (((BitVec.ofInt 64 (a : Int) &&& ~~~ BitVec.ofInt 64 9218868437227405312).toNat : Nat) : Int) = _
  rw [e, IntKind.wrap_u64]
  omega
theorem bits_andi (a : Nat) (h : a < 4611686018427387904) (k : Nat) (hk : k < 62) : bits .and .i64 (a : Int) ((2 ^ k - 1 : Nat) : Int) = (a % 2 ^ k : Nat) := by
  have h2 : 2 ^ k ≤ 2 ^ 62 := Nat.pow_le_pow_right (by omega) (by omega)
  have h3 : 2 ^ k - 1 < 18446744073709551616 := by omega
  have e : (BitVec.ofInt 64 (a : Int) &&& BitVec.ofInt 64 ((2 ^ k - 1 : Nat) : Int)).toNat = a % 2 ^ k := by
    rw [BitVec.toNat_and, BitVec.ofInt_natCast, BitVec.toNat_ofNat, Nat.mod_eq_of_lt (by omega), BitVec.ofInt_natCast, BitVec.toNat_ofNat, Nat.mod_eq_of_lt h3]
    exact Nat.and_two_pow_sub_one_eq_mod a k
  show IntKind.i64.wrap (((BitVec.ofInt 64 (a : Int) &&& BitVec.ofInt 64 ((2 ^ k - 1 : Nat) : Int)).toNat : Nat) : Int) = _
  rw [e]
  have : a % 2 ^ k ≤ a := Nat.mod_le _ _
  exact IntWalk.i64_in _ (by omega)
theorem and11i (a : Nat) (h : a < 2048) : bits .and .i64 (a : Int) 2047 = (a : Int) := by
  have := bits_andi a (by omega) 11 (by omega)
  rw [show a % 2 ^ 11 = a from Nat.mod_eq_of_lt h] at this
  exact this
theorem infB_inf : infB 9218868437227405312 = true := by decide +kernel
theorem eq_inf0 : eqB 9218868437227405312 0 = false := by decide +kernel
theorem Inf_pos (w : World) : Calls Tryd.prog 27 #[.int .i64 1] w fun e w' => e = .returned (fv 9218868437227405312) ∧ w = w' := by
  go_enter Tryd.func27, Tryd.ntmps27
  go_wp2_with fail
  go_ret
  exact ⟨rfl, rfl⟩
theorem NaN_any (w : World) : Calls Tryd.prog 26 #[] w fun e w' => e = .returned (fv 9221120237041090561) ∧ w = w' := by
  go_enter Tryd.func26, Tryd.ntmps26
  go_wp2_with fail
  go_ret
  exact ⟨rfl, rfl⟩
theorem and63 (b : Nat) (h : b < 9223372036854775808) : bits .and .u64 (b : Int) 9223372036854775808 = 0 := by
  have e : (BitVec.ofInt 64 (b : Int) &&& BitVec.ofInt 64 ((2 ^ 63 : Nat) : Int)).toNat = 0 := by
    rw [BitVec.toNat_and, BitVec.ofInt_natCast, BitVec.toNat_ofNat, Nat.mod_eq_of_lt (by omega), BitVec.ofInt_natCast, BitVec.toNat_ofNat, Nat.mod_eq_of_lt (by omega)]
    apply Nat.eq_of_testBit_eq
    intro i
    rw [Nat.testBit_and, Nat.testBit_two_pow, Nat.zero_testBit]
    by_cases hi : 63 = i
    · subst hi; rw [Nat.testBit_lt_two_pow h]; rfl
    · simp [hi]
  show IntKind.u64.wrap (((BitVec.ofInt 64 (b : Int) &&& BitVec.ofInt 64 ((2 ^ 63 : Nat) : Int)).toNat : Nat) : Int) = _
  rw [e]
  rfl
theorem Copysign_zero (b : Nat) (w : World) (h : b < 9223372036854775808) : Calls Tryd.prog 73 #[fv 0, fv b] w fun e w' => e = .returned (fv 0) ∧ w = w' := by
  have h1 := and63 b h
  have h2 : bits .andNot .u64 0 9223372036854775808 = 0 := by decide
  have h3 : bits .or .u64 0 0 = 0 := by decide
  clear h
  go_enter Tryd.func73, Tryd.ntmps73
  go_wp2_with fail
  go_ret
  exact ⟨rfl, rfl⟩
theorem ldexp_any (a : Nat) (k : Int) (w : World) (h0 : 0 < a) (h : a < INF) (hk1 : -100000 ≤ k) (hk2 : k ≤ 100000) : Calls Tryd.prog 55 #[fv a, .int .i64 k] w fun e w' => e = .returned (fv (ldx a k)) ∧ w = w' := by
  have hn := nrm_ok a h0 h
  have h64 : a < 18446744073709551616 := by unfold INF at h; omega
  have hn2 : nrm a < 9218868437227405312 := hn.2.1
  have HI := Lib.hid (fun W => IsInf_any a W h64)
  rw [infB_fin a (pfin a h).1] at HI
  have HN := Lib.hid (fun W => IsNaN_any a W)
  rw [nan_fin a (pfin a h).1] at HN
  have HZ := Lib.hid (fun W => normalize_any a W h0 h)
  have he := eqR (eq0 a h0 h)
  have hlt := ltR (lt0 (nrm a) hn.2.1)
  have hq : ((nrm a : Int) / 4503599627370496) = ((nrm a / 4503599627370496 : Nat) : Int) := by omega
  have hx : nrm a / 4503599627370496 ≤ 2046 := by omega
  have h2 := and11i (nrm a / 4503599627370496) (by omega)
  have h3 := not_field (nrm a) (by omega)
  have hF : nrm a % 4503599627370496 < 4503599627370496 := Nat.mod_lt _ (by omega)
  have hc : nc a ≤ 52 := by unfold nc; split <;> omega
  have HCS := Lib.hid (fun W => Copysign_zero (nrm a) W (by omega))
  unfold ldx xE
  generalize nrm a % 4503599627370496 = F at *
  generalize nrm a / 4503599627370496 = E at *
  generalize nc a = c at *
  generalize nrm a = b at *
  clear hn h0 h h64 hn2
  have hX : k - (c : Int) + (E : Int) - 1023 = k + -(c : Int) + ((E : Int) - 1023) := by omega
  rw [hX]
  clear hX
  by_cases hA : k + -(c : Int) + ((E : Int) - 1023) < -1075
  · rw [if_pos hA]
    have hd := decide_eq_true hA
    clear hF h3
    go_enter Tryd.func55, Tryd.ntmps55
    go_wp2_with (first | (go_at_call 70; refine (HI.out _).mono ?_; rintro e w1 ⟨rfl, rfl⟩) | (go_at_call 71; refine (HN.out _).mono ?_; rintro e w1 ⟨rfl, rfl⟩) | (go_at_call 72; refine (HZ.out _).mono ?_; rintro e w1 ⟨rfl, rfl⟩) | (go_at_call 73; refine (HCS.out _).mono ?_; rintro e w1 ⟨rfl, rfl⟩))
    go_ret
    exact ⟨rfl, rfl⟩
  · rw [if_neg hA]
    have hd := decide_eq_false hA
    by_cases hB : 1023 < k + -(c : Int) + ((E : Int) - 1023)
    · rw [if_pos hB]
      have hd2 := decide_eq_true hB
      clear hF h3
      go_enter Tryd.func55, Tryd.ntmps55
      go_wp2_with (first | (go_at_call 70; refine (HI.out _).mono ?_; rintro e w1 ⟨rfl, rfl⟩) | (go_at_call 71; refine (HN.out _).mono ?_; rintro e w1 ⟨rfl, rfl⟩) | (go_at_call 72; refine (HZ.out _).mono ?_; rintro e w1 ⟨rfl, rfl⟩) | (go_at_call 27; refine (Inf_pos _).mono ?_; rintro e w1 ⟨rfl, rfl⟩))
      go_ret
      exact ⟨rfl, rfl⟩
    · rw [if_neg hB]
      have hd2 := decide_eq_false hB
      by_cases hC : k + -(c : Int) + ((E : Int) - 1023) < -1022
      · rw [if_pos hC]
        have hd3 := decide_eq_true hC
        obtain ⟨n, hn⟩ : ∃ n : Nat, (k + -(c : Int) + ((E : Int) - 1023) + 1076).toNat = n := ⟨_, rfl⟩
        rw [hn]
        have hn3 : n ≤ 53 := by omega
        have hw : k + -(c : Int) + ((E : Int) - 1023) + 53 + 1023 = (n : Int) := by omega
        have ho := or_fieldI F n hF (by omega)
        obtain ⟨r, hr, hrl⟩ := mul_some 4368491638549381120 (F + n * 4503599627370496) c53_ok.1 (by unfold INF; omega)
        rw [hr]
        have hm := fun W => run_float_arith (P := Tryd.prog) W .mul 28 .f64 _ _ r hr
        generalize F + n * 4503599627370496 = x at *
        clear hF hrl hr hn
        go_enter Tryd.func55, Tryd.ntmps55
        go_wp2_with (first | (go_at_call 70; refine (HI.out _).mono ?_; rintro e w1 ⟨rfl, rfl⟩) | (go_at_call 71; refine (HN.out _).mono ?_; rintro e w1 ⟨rfl, rfl⟩) | (go_at_call 72; refine (HZ.out _).mono ?_; rintro e w1 ⟨rfl, rfl⟩))
        go_ret
        exact ⟨rfl, rfl⟩
      · rw [if_neg hC]
        have hd3 := decide_eq_false hC
        obtain ⟨n, hn⟩ : ∃ n : Nat, (k + -(c : Int) + ((E : Int) - 1023) + 1023).toNat = n := ⟨_, rfl⟩
        rw [hn]
        have hn3 : n ≤ 2046 := by omega
        have hw : k + -(c : Int) + ((E : Int) - 1023) + 1023 = (n : Int) := by omega
        have ho := or_fieldI F n hF (by omega)
        have hr := one_mul (F + n * 4503599627370496) (by unfold INF; omega)
        have hm := fun W => run_float_arith (P := Tryd.prog) W .mul 28 .f64 4607182418800017408 _ _ hr
        generalize F + n * 4503599627370496 = x at *
        clear hF hr hn
        go_enter Tryd.func55, Tryd.ntmps55
        go_wp2_with (first | (go_at_call 70; refine (HI.out _).mono ?_; rintro e w1 ⟨rfl, rfl⟩) | (go_at_call 71; refine (HN.out _).mono ?_; rintro e w1 ⟨rfl, rfl⟩) | (go_at_call 72; refine (HZ.out _).mono ?_; rintro e w1 ⟨rfl, rfl⟩))
        go_ret
        exact ⟨rfl, rfl⟩
theorem Ldexp_any (a : Nat) (k : Int) (w : World) (h0 : 0 < a) (h : a < INF) (hk1 : -100000 ≤ k) (hk2 : k ≤ 100000) : Calls Tryd.prog 42 #[fv a, .int .i64 k] w fun e w' => e = .returned (fv (ldx a k)) ∧ w = w' := by
  have HF := Lib.hid (fun W => ldexp_any a k W h0 h hk1 hk2)
  generalize ldx a k = x at *
  clear h0 h
  go_enter Tryd.func42, Tryd.ntmps42
  go_wp2_with (go_at_call 55; refine (HF.out _).mono ?_; rintro e w1 ⟨rfl, rfl⟩)
  go_ret
  exact ⟨rfl, rfl⟩
theorem eq_00 : eqB 0 0 = true := by decide +kernel
theorem Ldexp_zero (k : Int) (w : World) : Calls Tryd.prog 42 #[fv 0, .int .i64 k] w fun e w' => e = .returned (fv 0) ∧ w = w' := by
  have he := eqR eq_00
  have HF : Hid (∀ W, Calls Tryd.prog 55 #[fv 0, .int .i64 k] W fun e w' => e = .returned (fv 0) ∧ W = w') := by
    intro W
    go_enter Tryd.func55, Tryd.ntmps55
    go_wp2_with fail
    go_ret
    exact ⟨rfl, rfl⟩
  clear he
  go_enter Tryd.func42, Tryd.ntmps42
  go_wp2_with (go_at_call 55; refine (HF.out _).mono ?_; rintro e w1 ⟨rfl, rfl⟩)
  go_ret
  exact ⟨rfl, rfl⟩
end Go.Proofs.YtjanpaallealgaaDoor.flt
