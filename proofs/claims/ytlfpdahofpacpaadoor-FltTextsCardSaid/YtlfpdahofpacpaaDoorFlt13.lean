/-
  Proved: what the document's own Mod returns. Conditions: as each theorem says.
-/
import Derived.Test.YtlfpdahofpacpaaDoorFlt12
namespace Go.Proofs.YtlfpdahofpacpaaDoor.flt
open Go.RowKit Ieee
set_option linter.unusedVariables false
set_option maxRecDepth 100000

theorem mg_two : mg two = 2 * 2 ^ PP := by
  have h : PP = 51 + pl two := by rw [hPP, two_ok.2.2]
  rw [← mg_def, two_ok.2.1, h]
  generalize pl two = k
  rw [Nat.pow_add, show (2 : Nat) ^ 51 = 2251799813685248 by decide, ← Nat.mul_assoc]
theorem eqB_pos (a b : Nat) (ha : a < INF) (hb : b < INF) : eqB a b = decide (a = b) := by
  rw [eqB_fin a b (pfin a ha).1 (pfin b hb).1, pval a ha, pval b hb]
  have : ((mg a : Int) = (mg b : Int)) ↔ a = b := ⟨fun h => mg_inj (Int.ofNat.inj h), fun h => by rw [h]⟩
  exact decide_eq_decide.2 this
theorem dbl_step (x t q : Nat) (hx : x < INF) (ht : t < INF) (h0 : 0 < t) (hq : 2 * mg q = mg x ∨ 2 * mg q = mg x + 1 ∨ 2 * mg q + 1 = mg x) (h : t ≤ q) :
    ∃ t', t' < INF ∧ fop .mul t two = some t' ∧ mg t' = 2 * mg t ∧ t < t' := by
  have h1 := (mg_le_iff t q).2 h
  have htop := mg_top x hx
  have hp := mg_pos t h0
  have hlt : 2 * mg t < 2 ^ TX := by
    rcases Nat.eq_zero_or_pos (pl x) with hpl | hpl
    · have e := mg_def x
      rw [hpl, Nat.pow_zero, Nat.mul_one] at e
      have hs := sg_lt x
      have h2 : 2 ^ 53 < 2 ^ TX := Nat.pow_lt_pow_right (by omega) (by rw [hTX, hPX]; omega)
      have h3 : (2 : Nat) ^ 53 = 9007199254740992 := by decide
      rw [h3] at h2
      omega
    · have e := mg_def x
      obtain ⟨k, hk⟩ : ∃ k, pl x = k + 1 := ⟨pl x - 1, by omega⟩
      rw [hk, Nat.pow_succ, ← Nat.mul_assoc] at e
      omega
  obtain ⟨t', ht', e⟩ := rep_any (sg t) (pl t + 1) (sg_lt t) (by rw [Nat.pow_succ, ← Nat.mul_assoc, mg_def, Nat.mul_comm]; exact hlt)
  rw [Nat.pow_succ, ← Nat.mul_assoc, mg_def, Nat.mul_comm] at e
  refine ⟨t', ht', mul_exact t two t' ht two_ok.1 ht' ?_, e, ?_⟩
  · rw [mg_two, e, ← Nat.mul_assoc, Nat.mul_comm (mg t) 2]
  · rw [← mg_lt_iff, e]; omega
def RM1 (y t : Nat) : Prop := t < INF ∧ 0 < t ∧ ∃ j, mg t = mg y * 2 ^ j
def RM (X y r t : Nat) : Prop := r < INF ∧ t < INF ∧ (∃ j, mg t = mg y * 2 ^ j) ∧ mg r < 2 * mg t ∧ mg r % mg y = mg X % mg y
theorem RM.start {X y t q : Nat} (hX : X < INF) (h : RM1 y t) (hq : 2 * mg q = mg X ∨ 2 * mg q = mg X + 1 ∨ 2 * mg q + 1 = mg X) (hlt : ¬ t ≤ q) : RM X y X t := by
  have := (mg_lt_iff q t).2 (Nat.lt_of_not_le hlt)
  exact ⟨hX, h.1, h.2.2, by omega, rfl⟩
theorem RM.ge {X y r t : Nat} (h : RM X y r t) : y ≤ t := by
  obtain ⟨_, _, ⟨j, e⟩, _⟩ := h
  rw [← mg_le_iff, e]
  exact Nat.le_mul_of_pos_right _ (Nat.two_pow_pos j)
theorem RM.step {X y r t : Nat} (hX : X < INF) (hy : y < INF) (h0 : 0 < y) (h : RM X y r t) :
    ∃ r', ((t ≤ r ∧ fop .sub r t = some r') ∨ (¬ t ≤ r ∧ r' = r)) ∧ r' < INF ∧ ((t = y ∧ r' = modR X y) ∨ (t ≠ y ∧ ∃ t', fop .quo t two = some t' ∧ t' < t ∧ RM X y r' t')) := by
  have hty := h.ge
  obtain ⟨hr, ht, ⟨j, e⟩, hlt, hm⟩ := h
  have hy0 := mg_pos y h0
  have key : ∃ r', ((t ≤ r ∧ fop .sub r t = some r') ∨ (¬ t ≤ r ∧ r' = r)) ∧ r' < INF ∧ mg r' < mg t ∧ mg r' % mg y = mg X % mg y := by
    by_cases hle : t ≤ r
    · obtain ⟨r', hr', er⟩ := near_sub r t hr ht ((mg_le_iff t r).2 hle) (Nat.le_of_lt hlt)
      refine ⟨r', .inl ⟨hle, sub_exact r t r' hr ht hr' er⟩, hr', by omega, ?_⟩
      rw [← hm, er, e, Nat.add_comm, Nat.add_mul_mod_self_left]
    · exact ⟨r, .inr ⟨hle, rfl⟩, hr, (mg_lt_iff r t).2 (Nat.lt_of_not_le hle), hm⟩
  obtain ⟨r', hs, hr', hl', hm'⟩ := key
  refine ⟨r', hs, hr', ?_⟩
  by_cases hty2 : t = y
  · left
    refine ⟨hty2, ?_⟩
    subst hty2
    apply mg_inj
    rw [(modR_ok X t hX hy h0).2, ← hm', Nat.mod_eq_of_lt hl']
  · right
    refine ⟨hty2, ?_⟩
    obtain ⟨k, rfl⟩ : ∃ k, j = k + 1 := by
      cases j with
      | zero => exfalso; apply hty2; apply mg_inj; rw [e, Nat.pow_zero, Nat.mul_one]
      | succ k => exact ⟨k, rfl⟩
    have e2 : mg t = 2 * (mg y * 2 ^ k) := by rw [e, Nat.pow_succ, Nat.mul_comm (2 ^ k) 2, Nat.mul_left_comm]
    have htop := mg_top t ht
    have hk : 0 < mg y * 2 ^ k := Nat.mul_pos hy0 (Nat.two_pow_pos k)
    obtain ⟨t', ht', et⟩ := rep_any (sg y) (pl y + k) (sg_lt y) (by rw [Nat.pow_add, ← Nat.mul_assoc, mg_def]; omega)
    rw [Nat.pow_add, ← Nat.mul_assoc, mg_def] at et
    rw [← et] at e2 hk
    refine ⟨t', half_even t t' ht e2, ?_, hr', ht', ⟨k, et⟩, by omega, hm'⟩
    rw [← mg_lt_iff]; omega
theorem rMod_nan (a b : Nat) (w : World) (ha : a < 18446744073709551616) (hb : b < 18446744073709551616) (h : (eqB b 0 || infB a || nanB a || nanB b) = true) : Calls Tryd.prog 13 #[fv a, fv b] w fun e w' => e = .returned (fv NANB) ∧ w = w' := by
  have o1 := neR (a := a) (c := a) (b := !nanB a) (by unfold eqB; rw [order_self])
  have o2 := neR (a := b) (c := b) (b := !nanB b) (by unfold eqB; rw [order_self])
  rw [Bool.not_not] at o1 o2
  have HE := Lib.hid (fun W => endless_any a W ha)
  have hinf : (double.order (rung a) 9218868437227405311 == some .gt) = infB a := rfl
  rw [hinf] at HE
  clear hinf
  cases h1 : nanB a <;> rw [h1] at o1
  · cases h2 : nanB b <;> rw [h2] at o2
    · cases h3 : infB a <;> rw [h3] at HE
      · rw [h1, h2, h3] at h
        have h4 : eqB b 0 = true := by simpa using h
        have o4 := eqR h4
        clear h h1 h2 h3 h4 ha hb
        go_enter Tryd.func13, Tryd.ntmps13
        go_wp2_with (first | (go_at_call 36; refine (HE.out _).mono ?_; rintro e w1 ⟨rfl, rfl⟩) | (go_at_call 37; refine (NaN_any _).mono ?_; rintro e w1 ⟨rfl, rfl⟩))
        go_ret
        exact ⟨rfl, rfl⟩
      · clear h h1 h2 h3 ha hb
        go_enter Tryd.func13, Tryd.ntmps13
        go_wp2_with (first | (go_at_call 36; refine (HE.out _).mono ?_; rintro e w1 ⟨rfl, rfl⟩) | (go_at_call 37; refine (NaN_any _).mono ?_; rintro e w1 ⟨rfl, rfl⟩))
        go_ret
        exact ⟨rfl, rfl⟩
    · clear h h1 h2 ha hb HE
      go_enter Tryd.func13, Tryd.ntmps13
      go_wp2_with (first | (go_at_call 37; refine (NaN_any _).mono ?_; rintro e w1 ⟨rfl, rfl⟩))
      go_ret
      exact ⟨rfl, rfl⟩
  · clear h h1 ha hb HE o2
    go_enter Tryd.func13, Tryd.ntmps13
    go_wp2_with (first | (go_at_call 37; refine (NaN_any _).mono ?_; rintro e w1 ⟨rfl, rfl⟩))
    go_ret
    exact ⟨rfl, rfl⟩
theorem rMod_inf (a b : Nat) (w : World) (ha : a < 18446744073709551616) (hb : b < 18446744073709551616) (hna : nanB a = false) (hnb : nanB b = false) (hia : infB a = false) (hib : infB b = true) (he0 : eqB b 0 = false) : Calls Tryd.prog 13 #[fv a, fv b] w fun e w' => e = .returned (fv a) ∧ w = w' := by
  have o1 := neR (a := a) (c := a) (b := !nanB a) (by unfold eqB; rw [order_self])
  have o2 := neR (a := b) (c := b) (b := !nanB b) (by unfold eqB; rw [order_self])
  have o4 := eqR he0
  rw [Bool.not_not] at o1 o2
  rw [hna] at o1
  rw [hnb] at o2
  have HE := Lib.hid (fun W => endless_any a W ha)
  have hinf : (double.order (rung a) 9218868437227405311 == some .gt) = infB a := rfl
  rw [hinf, hia] at HE
  have HF := Lib.hid (fun W => endless_any b W hb)
  have hinf2 : (double.order (rung b) 9218868437227405311 == some .gt) = infB b := rfl
  rw [hinf2, hib] at HF
  clear hinf hinf2 hna hnb hia hib ha hb he0
  go_enter Tryd.func13, Tryd.ntmps13
  go_wp2_with (go_at_call 36; first | ((with_reducible refine (HE.out _).mono ?_); rintro e w1 ⟨rfl, rfl⟩) | ((with_reducible refine (HF.out _).mono ?_); rintro e w1 ⟨rfl, rfl⟩))
  go_ret
  exact ⟨rfl, rfl⟩
set_option maxHeartbeats 2000000 in
theorem rMod_main (a b : Nat) (w : World) (ha : a < 18446744073709551616) (hb : b < 18446744073709551616) (hfa : fin a) (hfb : fin b) (he0 : eqB b 0 = false) : Calls Tryd.prog 13 #[fv a, fv b] w fun e w' => e = .returned (fv (wd (sgn a) (modR (rung a) (rung b)))) ∧ w = w' := by
  have o1 := neR (a := a) (c := a) (b := true) (by unfold eqB; rw [order_self, nan_fin a hfa]; rfl)
  have o2 := neR (a := b) (c := b) (b := true) (by unfold eqB; rw [order_self, nan_fin b hfb]; rfl)
  simp only [Bool.not_true] at o1 o2
  have o4 := eqR he0
  have HE := Lib.hid (fun W => endless_any a W ha)
  have hinf : (double.order (rung a) 9218868437227405311 == some .gt) = infB a := rfl
  rw [hinf, infB_fin a hfa] at HE
  have HF := Lib.hid (fun W => endless_any b W hb)
  have hinf2 : (double.order (rung b) 9218868437227405311 == some .gt) = infB b := rfl
  rw [hinf2, infB_fin b hfb] at HF
  have HA := Lib.hid (fun W => size_any a W ha)
  have HB := Lib.hid (fun W => size_any b W hb)
  have hra : a % 9223372036854775808 = rung a := rfl
  have hrb : b % 9223372036854775808 = rung b := rfl
  rw [hra] at HA
  rw [hrb] at HB
  have HL := Lib.hid (fun W => rbelow_any a W ha)
  have hsg : decide (9223372036854775808 ≤ a) = sgn a := rfl
  rw [hsg] at HL
  have Hy0 := Lib.hid (eqz b hfb he0)
  have HyI : Hid (rung b < INF) := hfb.2
  have HXI : Hid (rung a < INF) := hfa.2
  clear hfa hfb ha hb he0 hinf hinf2 hra hrb hsg
  generalize rung a = X at *
  generalize rung b = y at *
  obtain ⟨q, hqI, hq1, hq2⟩ := half X HXI.out
  have hqr := fun W => run_float_arith (P := Tryd.prog) W .quo 23 .f64 X two q hq1
  have HQ := Lib.hid hq2
  have HQI := Lib.hid hqI
  clear hq1 hq2 hqI
  have HS : Hid (RM1 y y) := ⟨HyI.out, Hy0.out, 0, by rw [Nat.pow_zero, Nat.mul_one]⟩
  unfold two at hqr
  go_enter Tryd.func13, Tryd.ntmps13
  go_wp2_with (first | (go_at_call 36; first | ((with_reducible refine (HE.out _).mono ?_); rintro e w1 ⟨rfl, rfl⟩) | ((with_reducible refine (HF.out _).mono ?_); rintro e w1 ⟨rfl, rfl⟩)) | (go_at_call 38; first | ((with_reducible refine (HA.out _).mono ?_); rintro e w1 ⟨rfl, rfl⟩) | ((with_reducible refine (HB.out _).mono ?_); rintro e w1 ⟨rfl, rfl⟩)))
  go_loop [7] (fun v => ∃ t, v = fv t ∧ RM1 y t) (fun v => INF - bitsOf v)
  case atStart => exact ⟨y, rfl, HS.out⟩
  case round =>
    obtain ⟨t, rfl, hst⟩ := hrel
    have hge := geB_pos q t HQI.out hst.1
    by_cases htq : t ≤ q
    · rw [decide_eq_true htq] at hge
      replace hge := geR hge
      obtain ⟨t', h1, h2, h3, h4⟩ := dbl_step X t q HXI.out hst.1 hst.2.1 HQ.out htq
      have hmu := fun W => run_float_arith (P := Tryd.prog) W .mul 23 .f64 t two t' h2
      unfold two at hmu
      have HN : Hid (RM1 y t') := by
        obtain ⟨j, e⟩ := hst.2.2
        exact ⟨h1, Nat.lt_trans hst.2.1 h4, j + 1, by rw [h3, e, Nat.pow_succ, Nat.mul_comm (2 ^ j) 2, Nat.mul_left_comm]⟩
      have HM : Hid (INF - t' < INF - t) := by show _ < _; omega
      clear h1 h2 h3 h4 hst htq
      go_wp2_with fail
      go_round
      case rel => exact ⟨t', rfl, HN.out⟩
      case measure => exact HM.out
    · rw [decide_eq_false htq] at hge
      replace hge := geR hge
      have HR := Lib.hid (RM.start HXI.out hst HQ.out htq)
      clear htq hst
      go_wp2_with fail
      go_loop [5, 7] (fun u v => ∃ r t, u = fv r ∧ v = fv t ∧ RM X y r t) (fun _ v => bitsOf v)
      case atStart => exact ⟨X, t, rfl, rfl, HR.out⟩
      case round =>
        obtain ⟨r, s, rfl, rfl, hst⟩ := hrel
        have hg1 := geB_pos s y hst.2.1 HyI.out
        rw [decide_eq_true hst.ge] at hg1
        replace hg1 := geR hg1
        have hg2 := geB_pos r s hst.1 hst.2.1
        have hg3 := eqB_pos s y hst.2.1 HyI.out
        obtain ⟨r', hs, hrI, hcase⟩ := hst.step HXI.out HyI.out Hy0.out
        clear hst hge hqr
        have fin2 : ∀ W : World, r' = modR X y → Hid (∀ W, Calls Tryd.prog 34 #[fv r'] W fun e w' => e = .returned (fv (wd true r')) ∧ W = w') := by
          intro W h W
          have h64 : r' < 18446744073709551616 := Nat.lt_trans hrI (by unfold INF; omega)
          refine (rNeg_any r' W h64).mono fun e w' h => ⟨h.1.trans ?_, h.2⟩
          rw [ng_wd r' h64, (pfin r' hrI).2.1, (pfin r' hrI).2.2]; rfl
        rcases hs with ⟨hle, hsub⟩ | ⟨hle, rfl⟩
        · rw [decide_eq_true hle] at hg2
          replace hg2 := geR hg2
          have hsu := fun W => run_float_arith (P := Tryd.prog) W .sub 23 .f64 r s r' hsub
          clear hle hsub
          rcases hcase with ⟨rfl, he⟩ | ⟨hne, s', hq1, hlt, hrm⟩
          · rw [decide_eq_true rfl] at hg3
            replace hg3 := eqR hg3
            have HNg := fin2 w he
            have HE2 := Lib.hid he
            clear he fin2 hrI
            cases hsn : sgn a <;> rw [hsn] at HL
            all_goals
              have HSN := Lib.hid hsn
              clear hsn
              go_wp2_with (first | (go_at_call 39; refine (HL.out _).mono ?_; rintro e w1 ⟨rfl, rfl⟩) | (go_at_call 34; refine (HNg.out _).mono ?_; rintro e w1 ⟨rfl, rfl⟩))
              go_ret
              exact ⟨ret_f (by rw [← HE2.out, HSN.out]; try rfl), rfl⟩
          · rw [decide_eq_false hne] at hg3
            replace hg3 := eqR hg3
            rw [hg3, Bool.or_false] at hg1
            have hqu := fun W => run_float_arith (P := Tryd.prog) W .quo 23 .f64 s two s' hq1
            unfold two at hqu
            have HRM := Lib.hid hrm
            have HLT := Lib.hid hlt
            clear hq1 hne hlt hrm fin2 hrI
            go_wp2_with fail
            go_round
            case rel => exact ⟨r', s', rfl, rfl, HRM.out⟩
            case measure => exact HLT.out
        · rw [decide_eq_false hle] at hg2
          replace hg2 := geR hg2
          clear hle
          rcases hcase with ⟨rfl, he⟩ | ⟨hne, s', hq1, hlt, hrm⟩
          · rw [decide_eq_true rfl] at hg3
            replace hg3 := eqR hg3
            have HNg := fin2 w he
            have HE2 := Lib.hid he
            clear he fin2 hrI
            cases hsn : sgn a <;> rw [hsn] at HL
            all_goals
              have HSN := Lib.hid hsn
              clear hsn
              go_wp2_with (first | (go_at_call 39; refine (HL.out _).mono ?_; rintro e w1 ⟨rfl, rfl⟩) | (go_at_call 34; refine (HNg.out _).mono ?_; rintro e w1 ⟨rfl, rfl⟩))
              go_ret
              exact ⟨ret_f (by rw [← HE2.out, HSN.out]; try rfl), rfl⟩
          · rw [decide_eq_false hne] at hg3
            replace hg3 := eqR hg3
            rw [hg3, Bool.or_false] at hg1
            have hqu := fun W => run_float_arith (P := Tryd.prog) W .quo 23 .f64 s two s' hq1
            unfold two at hqu
            have HRM := Lib.hid hrm
            have HLT := Lib.hid hlt
            clear hq1 hne hlt hrm fin2 hrI
            go_wp2_with fail
            go_round
            case rel => exact ⟨r', s', rfl, rfl, HRM.out⟩
            case measure => exact HLT.out
theorem rMod_any (a b : Nat) (w : World) (ha : a < 18446744073709551616) (hb : b < 18446744073709551616) : Calls Tryd.prog 13 #[fv a, fv b] w fun e w' => e = .returned (fv (md a b)) ∧ w = w' := by
  unfold md
  cases h : (eqB b 0 || infB a || nanB a || nanB b)
  · rw [if_neg Bool.false_ne_true]
    simp only [Bool.or_eq_false_iff] at h
    obtain ⟨⟨⟨h1, h2⟩, h3⟩, h4⟩ := h
    cases h5 : infB b
    · rw [if_neg Bool.false_ne_true]
      exact rMod_main a b w ha hb (inf_cases a ha h2 h3) (inf_cases b hb h5 h4) h1
    · rw [if_pos rfl]
      exact rMod_inf a b w ha hb h3 h4 h2 h5 h1
  · rw [if_pos rfl]
    exact rMod_nan a b w ha hb h
attribute [local go_sem] run_bits run_frombits
theorem mods (a b : Nat) (w : World) (ha : a < 18446744073709551616) (hb : b < 18446744073709551616) : Calls Tryd.prog 3 #[.int .u64 a, .int .u64 b] w fun e w' => e = .returned (.bool true) ∧ Below w.heap.size w w' := by
  have HM := Lib.hid (fun W => fMod_any a b W ha hb)
  have HR := Lib.hid (fun W => rMod_any a b W ha hb)
  generalize md a b = m at *
  clear ha hb
  go_enter Tryd.func3, Tryd.ntmps3
  go_wp2_with (first | (go_at_call 12; refine (HM.out _).mono ?_; rintro e w1 ⟨rfl, rfl⟩) | (go_at_call 13; refine (HR.out _).mono ?_; rintro e w1 ⟨rfl, rfl⟩) | (go_at_call 11; refine (same_one _ _).mono ?_; rintro e w1 ⟨rfl, rfl⟩))
  refine (awake_any _).mono ?_; rintro e w6 ⟨rfl, hb6⟩
  go_wp2_with fail
  go_ret
  exact ⟨rfl, hb6⟩
end Go.Proofs.YtlfpdahofpacpaaDoor.flt
