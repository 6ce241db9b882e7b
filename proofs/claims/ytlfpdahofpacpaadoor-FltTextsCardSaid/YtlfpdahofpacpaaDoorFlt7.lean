/-
  Proved: what math.Mod returns. Conditions: as each theorem says.
-/
import Derived.Test.YtlfpdahofpacpaaDoorFlt6
namespace Go.Proofs.YtlfpdahofpacpaaDoor.flt
open Go.RowKit Ieee
set_option linter.unusedVariables false
set_option maxRecDepth 100000
attribute [local go_sem] run_bits run_frombits

def NANB : Nat := 9221120237041090561
/-- What Mod gives. -/
def md (a b : Nat) : Nat := if eqB b 0 || infB a || nanB a || nanB b then NANB else if infB b then a else wd (sgn a) (modR (rung a) (rung b))
def bitsOf : Value → Nat
  | .float _ b => b
  | _ => 0
theorem inf_cases (a : Nat) (h : a < 18446744073709551616) (h1 : infB a = false) (h2 : nanB a = false) : fin a := by
  rcases fin_cases a h with hf | ⟨h3, h4⟩ | ⟨h3, h4⟩
  · exact hf
  · exfalso
    unfold infB at h1
    rw [h3] at h1
    revert h1
    decide +kernel
  · rw [h4] at h2; cases h2
theorem inf_rung (a : Nat) (h : a < 18446744073709551616) (h1 : infB a = true) (h2 : nanB a = false) : rung a = 9218868437227405312 := by
  rcases fin_cases a h with hf | ⟨h3, h4⟩ | ⟨h3, h4⟩
  · rw [infB_fin a hf] at h1; cases h1
  · exact h3
  · rw [h4] at h2; cases h2
theorem eqz (a : Nat) (h : fin a) (he : eqB a 0 = false) : 0 < rung a := by
  rcases Nat.eq_zero_or_pos (rung a) with h0 | h0
  · exfalso
    have h1 : fin 0 := (pfin 0 (by unfold INF; omega)).1
    rw [eqB_fin a 0 h h1] at he
    have h2 : val a = 0 := by unfold val; rw [h0, mg_zero]; split <;> rfl
    have h3 : val 0 = 0 := by unfold val rung; rw [Nat.zero_mod, mg_zero]; split <;> rfl
    rw [h2, h3] at he
    simp at he
  · exact h0
theorem ltz (a : Nat) (h : fin a) : (double.order a 0 == some .lt) = (sgn a && decide (0 < rung a)) := by
  have h1 : fin 0 := (pfin 0 (by unfold INF; omega)).1
  have h3 : val 0 = 0 := by unfold val rung; rw [Nat.zero_mod, mg_zero]; split <;> rfl
  rw [order_fin a 0 h h1, h3]
  have h4 : (compare (val a) 0 = .lt) ↔ val a < 0 := by
    simp only [compare, compareOfLessAndEq]
    split
    · simp; assumption
    · split <;> simp <;> omega
  rw [Bool.eq_iff_iff]
  simp only [beq_iff_eq, Option.some.injEq, Bool.and_eq_true, decide_eq_true_iff]
  rw [h4]
  unfold val
  cases hs : sgn a
  · simp
  · simp only [if_true, true_and]
    have := mg_lt_iff 0 (rung a)
    rw [mg_zero] at this
    omega
theorem ge_inf (r : Nat) (h : fin r) : geB r 9218868437227405312 = false := by
  have h1 : double.read 9218868437227405312 = .infinity false := by decide +kernel
  unfold geB Format.order
  rw [read_fin r h, h1]
  rfl
theorem ng_wd (a : Nat) (h : a < 18446744073709551616) : ng a = wd (!sgn a) (rung a) := by
  unfold ng wd sgn rung
  by_cases h1 : a < 9223372036854775808
  · rw [if_pos h1, decide_eq_false (by omega)]; simp; omega
  · rw [if_neg h1, decide_eq_true (by omega)]; simp; omega
theorem mod_nan (a b : Nat) (w : World) (ha : a < 18446744073709551616) (hb : b < 18446744073709551616) (h : (eqB b 0 || infB a || nanB a || nanB b) = true) : Calls Tryd.prog 57 #[fv a, fv b] w fun e w' => e = .returned (fv NANB) ∧ w = w' := by
  have HI := Lib.hid (fun W => IsInf_any a W ha)
  have HN := Lib.hid (fun W => IsNaN_any a W)
  have HM := Lib.hid (fun W => IsNaN_any b W)
  cases h1 : eqB b 0
  · cases h2 : infB a
    · cases h3 : nanB a
      · rw [h1, h2, h3] at h
        replace h : nanB b = true := h
        rw [h2] at HI; rw [h3] at HN; rw [h] at HM
        replace h1 := eqR h1
        clear h h2 h3 ha hb
        go_enter Tryd.func57, Tryd.ntmps57
        go_wp2_with (first | (go_at_call 68; refine (HI.out _).mono ?_; rintro e w1 ⟨rfl, rfl⟩) | (go_at_call 69; first | ((with_reducible refine (HN.out _).mono ?_); rintro e w1 ⟨rfl, rfl⟩) | ((with_reducible refine (HM.out _).mono ?_); rintro e w1 ⟨rfl, rfl⟩)) | (go_at_call 37; refine (NaN_any _).mono ?_; rintro e w1 ⟨rfl, rfl⟩))
        go_ret
        exact ⟨rfl, rfl⟩
      · rw [h2] at HI; rw [h3] at HN
        replace h1 := eqR h1
        clear h h2 h3 ha hb HM
        go_enter Tryd.func57, Tryd.ntmps57
        go_wp2_with (first | (go_at_call 68; refine (HI.out _).mono ?_; rintro e w1 ⟨rfl, rfl⟩) | (go_at_call 69; ((with_reducible refine (HN.out _).mono ?_); rintro e w1 ⟨rfl, rfl⟩)) | (go_at_call 37; refine (NaN_any _).mono ?_; rintro e w1 ⟨rfl, rfl⟩))
        go_ret
        exact ⟨rfl, rfl⟩
    · rw [h2] at HI
      replace h1 := eqR h1
      clear h h2 ha hb HM HN
      go_enter Tryd.func57, Tryd.ntmps57
      go_wp2_with (first | (go_at_call 68; refine (HI.out _).mono ?_; rintro e w1 ⟨rfl, rfl⟩) | (go_at_call 37; refine (NaN_any _).mono ?_; rintro e w1 ⟨rfl, rfl⟩))
      go_ret
      exact ⟨rfl, rfl⟩
  · replace h1 := eqR h1
    clear h ha hb HM HN HI
    go_enter Tryd.func57, Tryd.ntmps57
    go_wp2_with (go_at_call 37; refine (NaN_any _).mono ?_; rintro e w1 ⟨rfl, rfl⟩)
    go_ret
    exact ⟨rfl, rfl⟩
theorem mod_inf (a b : Nat) (w : World) (ha : a < 18446744073709551616) (hb : b < 18446744073709551616) (hfa : fin a) (hnb : nanB b = false) (hib : infB b = true) (he0 : eqB b 0 = false) : Calls Tryd.prog 57 #[fv a, fv b] w fun e w' => e = .returned (fv a) ∧ w = w' := by
  have HI := Lib.hid (fun W => IsInf_any a W ha)
  rw [infB_fin a hfa] at HI
  have HN := Lib.hid (fun W => IsNaN_any a W)
  rw [nan_fin a hfa] at HN
  have HM := Lib.hid (fun W => IsNaN_any b W)
  rw [hnb] at HM
  have HA := Lib.hid (fun W => Abs_any b W hb)
  rw [inf_rung b hb hib hnb] at HA
  have HFY := Lib.hid (fun W => Frexp_inf W)
  replace he0 := eqR he0
  have hg := geR (ge_inf a hfa)
  have hlt := ltz a hfa
  cases hL : (sgn a && decide (0 < rung a))
  · rw [hL] at hlt
    replace hlt := ltR hlt
    clear hfa hnb hib ha hb hL
    go_enter Tryd.func57, Tryd.ntmps57
    go_wp2_with (first | (go_at_call 68; refine (HI.out _).mono ?_; rintro e w1 ⟨rfl, rfl⟩) | (go_at_call 69; first | ((with_reducible refine (HN.out _).mono ?_); rintro e w1 ⟨rfl, rfl⟩) | ((with_reducible refine (HM.out _).mono ?_); rintro e w1 ⟨rfl, rfl⟩)) | (go_at_call 70; refine (HA.out _).mono ?_; rintro e w1 ⟨rfl, rfl⟩) | (go_at_call 71; refine (HFY.out _).mono ?_; rintro e w1 ⟨rfl, rfl⟩))
    go_loop [7] (fun v => v = fv a) (fun v => bitsOf v)
    case atStart => rfl
    case round =>
      subst hrel
      go_wp2_with fail
      go_ret
      exact ⟨rfl, rfl⟩
  · rw [hL] at hlt
    replace hlt := ltR hlt
    have hfn : fin (ng a) := by
      rw [ng_wd a ha]; exact fin_wd _ _ hfa.2
    have hgn := geR (ge_inf (ng a) hfn)
    have hrn := fun W => run_neg (P := Tryd.prog) a W
    rw [neg_ng a ha] at hrn
    have hrn2 := fun W => run_neg (P := Tryd.prog) (ng a) W
    rw [neg_ng (ng a) (ng_lt a ha), ng_ng a ha] at hrn2
    clear hfa hnb hib ha hb hL hfn
    generalize ng a = c at *
    go_enter Tryd.func57, Tryd.ntmps57
    go_wp2_with (first | (go_at_call 68; refine (HI.out _).mono ?_; rintro e w1 ⟨rfl, rfl⟩) | (go_at_call 69; first | ((with_reducible refine (HN.out _).mono ?_); rintro e w1 ⟨rfl, rfl⟩) | ((with_reducible refine (HM.out _).mono ?_); rintro e w1 ⟨rfl, rfl⟩)) | (go_at_call 70; refine (HA.out _).mono ?_; rintro e w1 ⟨rfl, rfl⟩) | (go_at_call 71; refine (HFY.out _).mono ?_; rintro e w1 ⟨rfl, rfl⟩))
    go_loop [7] (fun v => v = fv c) (fun v => bitsOf v)
    case atStart => rfl
    case round =>
      subst hrel
      go_wp2_with fail
      go_ret
      exact ⟨rfl, rfl⟩
theorem frE_bd (r : Nat) (h0 : 0 < r) (h : r < INF) : -1073 ≤ frE r ∧ frE r ≤ 1024 := by
  have := (nf_ok r h0 h).2
  omega
def ModAt (X y r : Nat) : Prop := r < INF ∧ mg r % mg y = mg X % mg y
theorem ModAt.stop {X y r : Nat} (h : ModAt X y r) (hy : y < INF) (h0 : 0 < y) (hX : X < INF) (hr : r < y) : r = modR X y := by
  apply mg_inj
  rw [(modR_ok X y hX hy h0).2, ← h.2, Nat.mod_eq_of_lt (mg_lt hr)]
set_option maxHeartbeats 2000000 in
theorem mod_pos (a b : Nat) (w : World) (ha : a < 18446744073709551616) (hb : b < 18446744073709551616) (hfa : fin a) (hfb : fin b) (he0 : eqB b 0 = false) (hs : sgn a = false) : Calls Tryd.prog 57 #[fv a, fv b] w fun e w' => e = .returned (fv (wd (sgn a) (modR (rung a) (rung b)))) ∧ w = w' := by
  have hnb := nan_fin b hfb
  have HI := Lib.hid (fun W => IsInf_any a W ha)
  rw [infB_fin a hfa] at HI
  have HN := Lib.hid (fun W => IsNaN_any a W)
  rw [nan_fin a hfa] at HN
  have HM := Lib.hid (fun W => IsNaN_any b W)
  rw [hnb] at HM
  have HA := Lib.hid (fun W => Abs_any b W hb)
  have Hy0 := Lib.hid (eqz b hfb he0)
  have HyI : Hid (rung b < INF) := hfb.2
  have HXI : Hid (rung a < INF) := hfa.2
  replace he0 := eqR he0
  have hlt := ltz a hfa
  have HFY := Lib.hid (fun W => Frexp_any (rung b) W Hy0.out HyI.out)
  have Hfy : Hid (frF (rung b) < INF ∧ frF (rung b) = frF (rung b) ∧ frE (rung b) = frE (rung b)) := ⟨frF_inf _, rfl, rfl⟩
  have hEy := (nf_ok (rung b) Hy0.out HyI.out).2
  obtain ⟨hEy1, hEy2⟩ := frE_bd (rung b) Hy0.out HyI.out
  clear hEy
  obtain ⟨fy, hfy⟩ : ∃ fy, frF (rung b) = fy := ⟨_, rfl⟩
  obtain ⟨ey, hey⟩ : ∃ ey, frE (rung b) = ey := ⟨_, rfl⟩
  rw [hfy, hey] at HFY
  rw [hey] at hEy1 hEy2
  replace Hfy : Hid (fy < INF ∧ fy = frF (rung b) ∧ ey = frE (rung b)) := ⟨by rw [← hfy]; exact Hfy.out.1, hfy.symm, hey.symm⟩
  clear hfy hey
  rw [hs, wd_false]
  have hr0 : rung a = a := by unfold sgn at hs; have := of_decide_eq_false hs; unfold rung; omega
  rw [hr0] at HXI
  rw [hr0]
  rw [hs] at hlt
  replace hlt := ltR hlt
  simp only [Bool.false_and] at hlt
  have HS : Hid (ModAt a (rung b) a) := ⟨HXI.out, rfl⟩
  clear hfa hfb hnb ha hb hs hr0
  generalize rung b = y at *
  obtain ⟨X, hX⟩ : ∃ X, X = a := ⟨_, rfl⟩
  rw [← hX] at HXI
  replace HS : Hid (ModAt X y a) := by rw [hX]; exact HS
  have HX := Lib.hid hX
  clear hX
  go_enter Tryd.func57, Tryd.ntmps57
  go_wp2_with (first | (go_at_call 68; refine (HI.out _).mono ?_; rintro e w1 ⟨rfl, rfl⟩) | (go_at_call 69; first | ((with_reducible refine (HN.out _).mono ?_); rintro e w1 ⟨rfl, rfl⟩) | ((with_reducible refine (HM.out _).mono ?_); rintro e w1 ⟨rfl, rfl⟩)) | (go_at_call 70; refine (HA.out _).mono ?_; rintro e w1 ⟨rfl, rfl⟩) | (go_at_call 71; refine (HFY.out _).mono ?_; rintro e w1 ⟨rfl, rfl⟩))
  go_loop [7, 8, 9] (fun v _ _ => ∃ r, v = fv r ∧ ModAt X y r) (fun v _ _ => bitsOf v)
  case atStart => exact ⟨a, rfl, HS.out⟩
  case round =>
    obtain ⟨r, rfl, hst⟩ := hrel
    have hrI := hst.1
    have hge := geB_pos r y hrI HyI.out
    by_cases hyr : y ≤ r
    · rw [decide_eq_true hyr] at hge
      replace hge := geR hge
      obtain ⟨t, r', h1, h2, h3, h4, h5, h6, h7, h8⟩ := mod_step r y hrI Hy0.out hyr
      have HR' : Hid (ModAt X y r') := ⟨h2, by rw [h5]; exact hst.2⟩
      have hsub := fun W => run_float_arith (P := Tryd.prog) W .sub 23 .f64 r t r' (sub_exact r t r' hrI h1 h2 h4)
      have HFR := Lib.hid (fun W => Frexp_any r W (Nat.lt_of_lt_of_le Hy0.out hyr) hrI)
      have HLD := Lib.hid (fun W => Ldexp_any y (stepK r y) W Hy0.out HyI.out (Int.le_trans (by decide) h7) (Int.le_trans h8 (by decide)))
      rw [h3] at HLD
      have hlt := ltB_pos (frF r) fy (frF_inf r) Hfy.out.1
      have hEr := (nf_ok r (Nat.lt_of_lt_of_le Hy0.out hyr) hrI).2
      obtain ⟨hEr1, hEr2⟩ := frE_bd r (Nat.lt_of_lt_of_le Hy0.out hyr) hrI
      have H6 := Lib.hid h6
      unfold stepK at HLD h7 h8
      rw [← Hfy.out.2.1, ← Hfy.out.2.2] at HLD
      clear hEr h1 h2 h3 h4 h5 h6 hyr hrI hst h7 h8
      generalize frE r = Er at *
      generalize frF r = Fr at *
      by_cases hf : Fr < fy
      · rw [if_pos hf] at HLD
        rw [decide_eq_true hf] at hlt
        replace hlt := ltR hlt
        clear hf
        go_wp2_with (first | (go_at_call 71; refine (HFR.out _).mono ?_; rintro e w1 ⟨rfl, rfl⟩) | (go_at_call 62; refine (HLD.out _).mono ?_; rintro e w1 ⟨rfl, rfl⟩))
        go_round
        case rel => exact ⟨r', rfl, HR'.out⟩
        case measure => exact H6.out
      · rw [if_neg hf] at HLD
        rw [decide_eq_false hf] at hlt
        replace hlt := ltR hlt
        clear hf
        go_wp2_with (first | (go_at_call 71; refine (HFR.out _).mono ?_; rintro e w1 ⟨rfl, rfl⟩) | (go_at_call 62; refine (HLD.out _).mono ?_; rintro e w1 ⟨rfl, rfl⟩))
        go_round
        case rel => exact ⟨r', rfl, HR'.out⟩
        case measure => exact H6.out
    · rw [decide_eq_false hyr] at hge
      replace hge := geR hge
      have HE : Hid (r = modR X y) := hst.stop HyI.out Hy0.out HXI.out (Nat.lt_of_not_le hyr)
      have hr64 : r < 18446744073709551616 := Nat.lt_trans hrI (by unfold INF; omega)
      have hrn := fun W => run_neg (P := Tryd.prog) r W
      rw [neg_ng r hr64, ng_wd r hr64, (pfin r hrI).2.1, (pfin r hrI).2.2] at hrn
      replace hrn : ∀ W, (Op.unary .neg (.float .f64 r)).run Tryd.prog W = .ok (.float .f64 (wd true r)) W := hrn
      have HW := Lib.hid (HE.out)
      clear hr64 hyr hrI hst
      generalize hwr : wd true r = wr at *
      have HWR := Lib.hid hwr
      clear hwr
      go_wp2_with fail
      go_ret
      exact ⟨ret_f (by rw [HE.out, HX.out]), rfl⟩
set_option maxHeartbeats 2000000 in
theorem mod_neg (a b : Nat) (w : World) (ha : a < 18446744073709551616) (hb : b < 18446744073709551616) (hfa : fin a) (hfb : fin b) (he0 : eqB b 0 = false) (hs : sgn a = true) (h0 : 0 < rung a) : Calls Tryd.prog 57 #[fv a, fv b] w fun e w' => e = .returned (fv (wd (sgn a) (modR (rung a) (rung b)))) ∧ w = w' := by
  have hnb := nan_fin b hfb
  have HI := Lib.hid (fun W => IsInf_any a W ha)
  rw [infB_fin a hfa] at HI
  have HN := Lib.hid (fun W => IsNaN_any a W)
  rw [nan_fin a hfa] at HN
  have HM := Lib.hid (fun W => IsNaN_any b W)
  rw [hnb] at HM
  have HA := Lib.hid (fun W => Abs_any b W hb)
  have Hy0 := Lib.hid (eqz b hfb he0)
  have HyI : Hid (rung b < INF) := hfb.2
  have HXI : Hid (rung a < INF) := hfa.2
  replace he0 := eqR he0
  have hlt := ltz a hfa
  have HFY := Lib.hid (fun W => Frexp_any (rung b) W Hy0.out HyI.out)
  have Hfy : Hid (frF (rung b) < INF ∧ frF (rung b) = frF (rung b) ∧ frE (rung b) = frE (rung b)) := ⟨frF_inf _, rfl, rfl⟩
  have hEy := (nf_ok (rung b) Hy0.out HyI.out).2
  obtain ⟨hEy1, hEy2⟩ := frE_bd (rung b) Hy0.out HyI.out
  clear hEy
  obtain ⟨fy, hfy⟩ : ∃ fy, frF (rung b) = fy := ⟨_, rfl⟩
  obtain ⟨ey, hey⟩ : ∃ ey, frE (rung b) = ey := ⟨_, rfl⟩
  rw [hfy, hey] at HFY
  rw [hey] at hEy1 hEy2
  replace Hfy : Hid (fy < INF ∧ fy = frF (rung b) ∧ ey = frE (rung b)) := ⟨by rw [← hfy]; exact Hfy.out.1, hfy.symm, hey.symm⟩
  clear hfy hey
  rw [hs]
  have hr0 : ng a = rung a := by rw [ng_wd a ha, hs]; rfl
  rw [hs, decide_eq_true h0] at hlt
  replace hlt := ltR hlt
  simp only [Bool.true_and] at hlt
  have hrn0 := fun W => run_neg (P := Tryd.prog) a W
  rw [neg_ng a ha, hr0] at hrn0
  have HS : Hid (ModAt (rung a) (rung b) (rung a)) := ⟨HXI.out, rfl⟩
  clear hfa hfb hnb ha hb hs hr0 h0
  generalize rung b = y at *
  generalize rung a = X at *
  go_enter Tryd.func57, Tryd.ntmps57
  go_wp2_with (first | (go_at_call 68; refine (HI.out _).mono ?_; rintro e w1 ⟨rfl, rfl⟩) | (go_at_call 69; first | ((with_reducible refine (HN.out _).mono ?_); rintro e w1 ⟨rfl, rfl⟩) | ((with_reducible refine (HM.out _).mono ?_); rintro e w1 ⟨rfl, rfl⟩)) | (go_at_call 70; refine (HA.out _).mono ?_; rintro e w1 ⟨rfl, rfl⟩) | (go_at_call 71; refine (HFY.out _).mono ?_; rintro e w1 ⟨rfl, rfl⟩))
  go_loop [7, 8, 9] (fun v _ _ => ∃ r, v = fv r ∧ ModAt X y r) (fun v _ _ => bitsOf v)
  case atStart => exact ⟨X, rfl, HS.out⟩
  case round =>
    obtain ⟨r, rfl, hst⟩ := hrel
    have hrI := hst.1
    have hge := geB_pos r y hrI HyI.out
    by_cases hyr : y ≤ r
    · rw [decide_eq_true hyr] at hge
      replace hge := geR hge
      obtain ⟨t, r', h1, h2, h3, h4, h5, h6, h7, h8⟩ := mod_step r y hrI Hy0.out hyr
      have HR' : Hid (ModAt X y r') := ⟨h2, by rw [h5]; exact hst.2⟩
      have hsub := fun W => run_float_arith (P := Tryd.prog) W .sub 23 .f64 r t r' (sub_exact r t r' hrI h1 h2 h4)
      have HFR := Lib.hid (fun W => Frexp_any r W (Nat.lt_of_lt_of_le Hy0.out hyr) hrI)
      have HLD := Lib.hid (fun W => Ldexp_any y (stepK r y) W Hy0.out HyI.out (Int.le_trans (by decide) h7) (Int.le_trans h8 (by decide)))
      rw [h3] at HLD
      have hlt := ltB_pos (frF r) fy (frF_inf r) Hfy.out.1
      have hEr := (nf_ok r (Nat.lt_of_lt_of_le Hy0.out hyr) hrI).2
      obtain ⟨hEr1, hEr2⟩ := frE_bd r (Nat.lt_of_lt_of_le Hy0.out hyr) hrI
      have H6 := Lib.hid h6
      unfold stepK at HLD h7 h8
      rw [← Hfy.out.2.1, ← Hfy.out.2.2] at HLD
      clear hEr h1 h2 h3 h4 h5 h6 hyr hrI hst h7 h8
      generalize frE r = Er at *
      generalize frF r = Fr at *
      by_cases hf : Fr < fy
      · rw [if_pos hf] at HLD
        rw [decide_eq_true hf] at hlt
        replace hlt := ltR hlt
        clear hf
        go_wp2_with (first | (go_at_call 71; refine (HFR.out _).mono ?_; rintro e w1 ⟨rfl, rfl⟩) | (go_at_call 62; refine (HLD.out _).mono ?_; rintro e w1 ⟨rfl, rfl⟩))
        go_round
        case rel => exact ⟨r', rfl, HR'.out⟩
        case measure => exact H6.out
      · rw [if_neg hf] at HLD
        rw [decide_eq_false hf] at hlt
        replace hlt := ltR hlt
        clear hf
        go_wp2_with (first | (go_at_call 71; refine (HFR.out _).mono ?_; rintro e w1 ⟨rfl, rfl⟩) | (go_at_call 62; refine (HLD.out _).mono ?_; rintro e w1 ⟨rfl, rfl⟩))
        go_round
        case rel => exact ⟨r', rfl, HR'.out⟩
        case measure => exact H6.out
    · rw [decide_eq_false hyr] at hge
      replace hge := geR hge
      have HE : Hid (r = modR X y) := hst.stop HyI.out Hy0.out HXI.out (Nat.lt_of_not_le hyr)
      have hr64 : r < 18446744073709551616 := Nat.lt_trans hrI (by unfold INF; omega)
      have hrn := fun W => run_neg (P := Tryd.prog) r W
      rw [neg_ng r hr64, ng_wd r hr64, (pfin r hrI).2.1, (pfin r hrI).2.2] at hrn
      replace hrn : ∀ W, (Op.unary .neg (.float .f64 r)).run Tryd.prog W = .ok (.float .f64 (wd true r)) W := hrn
      have HW := Lib.hid (HE.out)
      clear hr64 hyr hrI hst
      generalize hwr : wd true r = wr at *
      have HWR := Lib.hid hwr
      clear hwr
      go_wp2_with fail
      go_ret
      exact ⟨ret_f (by rw [← HWR.out, HE.out]), rfl⟩
set_option maxHeartbeats 2000000 in
theorem mod_zero (a b : Nat) (w : World) (ha : a < 18446744073709551616) (hb : b < 18446744073709551616) (hfa : fin a) (hfb : fin b) (he0 : eqB b 0 = false) (hs : sgn a = true) (h0 : ¬ 0 < rung a) : Calls Tryd.prog 57 #[fv a, fv b] w fun e w' => e = .returned (fv (wd (sgn a) (modR (rung a) (rung b)))) ∧ w = w' := by
  have hnb := nan_fin b hfb
  have HI := Lib.hid (fun W => IsInf_any a W ha)
  rw [infB_fin a hfa] at HI
  have HN := Lib.hid (fun W => IsNaN_any a W)
  rw [nan_fin a hfa] at HN
  have HM := Lib.hid (fun W => IsNaN_any b W)
  rw [hnb] at HM
  have HA := Lib.hid (fun W => Abs_any b W hb)
  have Hy0 := Lib.hid (eqz b hfb he0)
  have HyI : Hid (rung b < INF) := hfb.2
  have HXI : Hid (rung a < INF) := hfa.2
  replace he0 := eqR he0
  have hlt := ltz a hfa
  have HFY := Lib.hid (fun W => Frexp_any (rung b) W Hy0.out HyI.out)
  have Hfy : Hid (frF (rung b) < INF ∧ frF (rung b) = frF (rung b) ∧ frE (rung b) = frE (rung b)) := ⟨frF_inf _, rfl, rfl⟩
  have hEy := (nf_ok (rung b) Hy0.out HyI.out).2
  obtain ⟨hEy1, hEy2⟩ := frE_bd (rung b) Hy0.out HyI.out
  clear hEy
  obtain ⟨fy, hfy⟩ : ∃ fy, frF (rung b) = fy := ⟨_, rfl⟩
  obtain ⟨ey, hey⟩ : ∃ ey, frE (rung b) = ey := ⟨_, rfl⟩
  rw [hfy, hey] at HFY
  rw [hey] at hEy1 hEy2
  replace Hfy : Hid (fy < INF ∧ fy = frF (rung b) ∧ ey = frE (rung b)) := ⟨by rw [← hfy]; exact Hfy.out.1, hfy.symm, hey.symm⟩
  clear hfy hey
  rw [hs]
  have h1 : rung a = 0 := by omega
  have h2 : a = wd true 0 := by rw [← wd_self a ha, hs, h1]
  have hm : modR (rung a) (rung b) = 0 := by
    apply mg_inj
    rw [(modR_ok _ _ HXI.out HyI.out Hy0.out).2, h1, mg_zero, Nat.zero_mod]
  rw [hm, ← h2]
  rw [hs, decide_eq_false h0] at hlt
  replace hlt := ltR hlt
  simp only [Bool.and_false] at hlt
  have hge : geB a (rung b) = false := by
    rw [geB_fin a (rung b) hfa (pfin _ HyI.out).1, pval _ HyI.out]
    apply decide_eq_false
    unfold val
    rw [hs, h1, mg_zero]
    have := mg_pos _ Hy0.out
    simp; omega
  replace hge := geR hge
  clear hfa hfb hnb ha hb hs h0 h1 h2 hm
  generalize rung b = y at *
  go_enter Tryd.func57, Tryd.ntmps57
  go_wp2_with (first | (go_at_call 68; refine (HI.out _).mono ?_; rintro e w1 ⟨rfl, rfl⟩) | (go_at_call 69; first | ((with_reducible refine (HN.out _).mono ?_); rintro e w1 ⟨rfl, rfl⟩) | ((with_reducible refine (HM.out _).mono ?_); rintro e w1 ⟨rfl, rfl⟩)) | (go_at_call 70; refine (HA.out _).mono ?_; rintro e w1 ⟨rfl, rfl⟩) | (go_at_call 71; refine (HFY.out _).mono ?_; rintro e w1 ⟨rfl, rfl⟩))
  go_loop [7] (fun v => v = fv a) (fun v => bitsOf v)
  case atStart => rfl
  case round =>
    subst hrel
    go_wp2_with fail
    go_ret
    exact ⟨rfl, rfl⟩
theorem mod_main (a b : Nat) (w : World) (ha : a < 18446744073709551616) (hb : b < 18446744073709551616) (hfa : fin a) (hfb : fin b) (he0 : eqB b 0 = false) : Calls Tryd.prog 57 #[fv a, fv b] w fun e w' => e = .returned (fv (wd (sgn a) (modR (rung a) (rung b)))) ∧ w = w' := by
  cases hs : sgn a
  · have := mod_pos a b w ha hb hfa hfb he0 hs
    rwa [hs] at this
  · by_cases h0 : 0 < rung a
    · have := mod_neg a b w ha hb hfa hfb he0 hs h0
      rwa [hs] at this
    · have := mod_zero a b w ha hb hfa hfb he0 hs h0
      rwa [hs] at this
theorem Mod_any (a b : Nat) (w : World) (ha : a < 18446744073709551616) (hb : b < 18446744073709551616) : Calls Tryd.prog 35 #[fv a, fv b] w fun e w' => e = .returned (fv (md a b)) ∧ w = w' := by
  have HM : Hid (∀ W, Calls Tryd.prog 57 #[fv a, fv b] W fun e w' => e = .returned (fv (md a b)) ∧ W = w') := by
    intro W
    unfold md
    cases h : (eqB b 0 || infB a || nanB a || nanB b)
    · simp only [Bool.or_eq_false_iff] at h
      obtain ⟨⟨⟨h1, h2⟩, h3⟩, h4⟩ := h
      rw [if_neg Bool.false_ne_true]
      have hfa := inf_cases a ha h2 h3
      cases h5 : infB b
      · rw [if_neg Bool.false_ne_true]
        exact mod_main a b W ha hb hfa (inf_cases b hb h5 h4) h1
      · rw [if_pos rfl]
        exact mod_inf a b W ha hb hfa h4 h5 h1
    · rw [if_pos rfl]
      exact mod_nan a b W ha hb h
  generalize md a b = x at *
  clear ha hb
  go_enter Tryd.func35, Tryd.ntmps35
  go_wp2_with (go_at_call 57; refine (HM.out _).mono ?_; rintro e w1 ⟨rfl, rfl⟩)
  go_ret
  exact ⟨rfl, rfl⟩
theorem fMod_any (a b : Nat) (w : World) (ha : a < 18446744073709551616) (hb : b < 18446744073709551616) : Calls Tryd.prog 12 #[fv a, fv b] w fun e w' => e = .returned (fv (md a b)) ∧ w = w' := by
  have HM := Lib.hid (fun W => Mod_any a b W ha hb)
  generalize md a b = x at *
  clear ha hb
  go_enter Tryd.func12, Tryd.ntmps12
  go_wp2_with (go_at_call 35; refine (HM.out _).mono ?_; rintro e w1 ⟨rfl, rfl⟩)
  go_ret
  exact ⟨rfl, rfl⟩
end Go.Proofs.YtlfpdahofpacpaaDoor.flt
