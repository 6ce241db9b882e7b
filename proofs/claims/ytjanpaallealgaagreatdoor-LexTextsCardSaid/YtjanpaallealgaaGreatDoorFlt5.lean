/-
  Proved: what the document's own Text returns. Conditions: as each theorem says.
-/
import Derived.Test.YtjanpaallealgaaGreatDoorFlt4
namespace Go.Proofs.YtjanpaallealgaaGreatDoor.flt
open Go.RowKit Ieee
open num (U64 decS decL decF_len Dec_any rDec_any ret_str ret_pair bcell)
set_option linter.unusedVariables false
set_option maxRecDepth 100000
attribute [local go_sem] run_bits run_frombits

theorem endless_any (a : Nat) (w : World) (h : a < 18446744073709551616) : Calls Tryz.prog 96 #[fv a] w fun e w' => e = .returned (.bool (double.order (rung a) 9218868437227405311 == some .gt)) ∧ w = w' := by
  have HS := Lib.hid (fun W => size_any a W h)
  show Calls Tryz.prog 96 #[fv a] w fun e w' => e = .returned (.bool (double.order (a % 9223372036854775808) 9218868437227405311 == some .gt)) ∧ w = w'
  generalize a % 9223372036854775808 = r at *
  go_enter Tryz.func96, Tryz.ntmps96
  go_wp2_with (go_at_call 105; refine (HS.out _).mono ?_; rintro e w1 ⟨rfl, rfl⟩)
  go_ret
  exact ⟨rfl, rfl⟩
theorem mod_two (m : Nat) : (m : Int) % 2 = ((m % 2 : Nat) : Int) := by omega
theorem szN (D : ByteArray) (x : Int) (h : x < 0) : D ++ (⟨#[112, 45]⟩ : ByteArray) ++ decS x.natAbs = D ++ (⟨#[112]⟩ : ByteArray) ++ szS x := by
  rw [szS_neg x h]
  apply ByteArray.ext
  apply Array.toList_inj.1
  simp [ByteArray.data_append]
theorem rText_pos (a : Nat) (w : World) (h : a < 9223372036854775808) (hn : nanB a = false) : Calls Tryz.prog 78 #[fv a] w fun e w' => e = .returned (.string (txtP a)) ∧ Below w.heap.size w w' := by
  have hle := nan_pos a h hn
  have hg := gt_max a hle
  have ho2 := neR (a := a) (c := a) (b := true) (by unfold eqB; rw [order_self, hn]; rfl)
  have hbl : decide (9223372036854775808 ≤ a) = false := decide_eq_false (by omega)
  have HB := Lib.hid (fun W => rbelow_any a W (by omega))
  have HE := Lib.hid (fun W => endless_any a W (by omega))
  have hru : rung a = a := by unfold rung; omega
  rw [hru] at HE
  rw [hbl] at HB
  have HWh := Lib.hid (fun W => rWhole_any a W (by omega))
  by_cases hi : 9218868437227405312 ≤ a
  · have HT : Hid (txtP a = ⟨#[105, 110, 102]⟩) := by unfold Hid txtP; rw [if_pos hi]
    rw [decide_eq_true hi] at hg
    rw [hg] at HE
    clear hi hle hn h hbl HWh hg hru
    simp only [Bool.not_true] at ho2
    go_enter Tryz.func78, Tryz.ntmps78
    go_wp2_with (first | (go_at_call 95; refine (HB.out _).mono ?_; rintro e w1 ⟨rfl, rfl⟩) | (go_at_call 96; refine (HE.out _).mono ?_; rintro e w1 ⟨rfl, rfl⟩))
    go_ret
    exact ⟨ret_str HT.out.symm, Below.refl _ _⟩
  · rw [decide_eq_false hi] at hg
    rw [hg] at HE
    simp only [Bool.not_true] at ho2
    cases hW : isW a
    · have HT : Hid (txtP a = txtM a) := by unfold Hid txtP; rw [if_neg hi, hW]; rfl
      have h0 : 0 < a := by
        rcases Nat.eq_zero_or_pos a with rfl | h0
        · rw [whole_zero] at hW; cases hW
        · exact h0
      have hbd := txtM_bd a (by omega)
      unfold txtM at HT
      rw [hW] at HWh
      have h1 : (a : Int) % 4503599627370496 = ((a % 4503599627370496 : Nat) : Int) := by omega
      have hq : ((a : Int) / 4503599627370496) = ((a / 4503599627370496 : Nat) : Int) := by omega
      have hx : a / 4503599627370496 ≤ 2046 := by omega
      have hz : a / 4503599627370496 = 0 → sg a = a % 4503599627370496 ∧ (pl a : Int) = 0 := fun h => ⟨(sg_zero a h).1, by rw [(sg_zero a h).2]; rfl⟩
      have hp := sg_pos a
      have hs0 : a / 4503599627370496 = 0 → 0 < a % 4503599627370496 := by omega
      have hs1 : a % 4503599627370496 < 4503599627370496 := by omega
      have hm1 := (txtM_bd a (by omega)).1
      generalize a % 4503599627370496 = m at *
      generalize a / 4503599627370496 = x at *
      generalize sg a = s at *
      generalize (pl a : Int) = p at *
      obtain ⟨E0, hE0⟩ : ∃ E0 : Int, E0 = p - 1074 := ⟨_, rfl⟩
      rw [← hE0] at HT hp
      have HM1 := Lib.hid hm1
      have H1 := Lib.hid h1
      by_cases hx0 : x = 0
      · subst hx0
        obtain ⟨rfl, hp0⟩ := hz rfl
        obtain rfl : E0 = -1074 := by omega
        have hm0 := hs0 rfl
        have HS := Lib.hid (StripAt.start (s := s) hm0 (by omega))
        clear hz hp hs0 hp0 hx hE0 hi hle hn h hbl hW h0 hg hru hm1 hbd h1
        replace hq : ((a : Int) / 4503599627370496) = 0 := hq
        go_enter Tryz.func78, Tryz.ntmps78
        go_wp2_with (first | (go_at_call 95; refine (HB.out _).mono ?_; rintro e w1 ⟨rfl, rfl⟩) | (go_at_call 96; refine (HE.out _).mono ?_; rintro e w1 ⟨rfl, rfl⟩) | (go_at_call 97; refine (HWh.out _).mono ?_; rintro e w1 ⟨rfl, rfl⟩))
        go_loop [7, 6] (fun y i => ∃ m' f k : Nat, y = .int .u64 m' ∧ i = .int .i64 (-1074 + (k : Int)) ∧ StripAt s m' f k) (fun y _ => (intOf y).toNat)
        case atStart => exact ⟨s, 64, 0, by rw [H1.out], rfl, HS.out⟩
        case round =>
          obtain ⟨m', f, k, rfl, rfl, hst⟩ := hrel
          have hk : k ≤ 64 := hst.2.2.1
          have hm : 0 < m' := hst.2.1
          have ha1 := mod_two m'
          have hwr := num.wrap_div m' 2 hst.2.2.2.2.2
          by_cases he : m' % 2 = 0
          · obtain ⟨f', h'⟩ := hst.step he
            have H' := Lib.hid h'
            replace ha1 : (m' : Int) % 2 = 0 := by rw [ha1, he]; rfl
            replace hwr : IntKind.u64.wrap ((m' : Int) / 2) = ((m' / 2 : Nat) : Int) := hwr
            clear he hst h'
            go_wp2
            go_round
            case rel => exact ⟨m' / 2, f', k + 1, rfl, by go_num, H'.out⟩
            case measure => simp [intOf]; omega
          · have he1 : m' % 2 = 1 := by omega
            have hst2 := hst.stop he1
            replace ha1 : (m' : Int) % 2 = 1 := by rw [ha1, he1]; rfl
            have hm2 := HM1.out
            rw [hst2.1] at HT hm2
            rw [hst2.2] at HT
            clear he he1 hst hst2 HM1 hwr
            have HD := Lib.hid (fun W => rDec_any m' W (show m' < 18446744073709551616 by omega))
            have hs1 := decS_size m'
            have hZ0 := fun W => rDec_any (-1074 + (k : Int)).natAbs W (show (-1074 + (k : Int)).natAbs < 18446744073709551616 by omega)
            have HZ := Lib.hid hZ0
            have hs2 := decS_size (-1074 + (k : Int)).natAbs
            by_cases hng : -1074 + (k : Int) < 0
            · have hneg : decide (-1074 + (k : Int) < 0) = true := decide_eq_true hng
              have hw : IntKind.u64.wrap (-(-1074 + (k : Int))) = ((-1074 + (k : Int)).natAbs : Int) := by rw [IntKind.wrap_u64]; omega
              have HC := Lib.hid (szN (decS m') (-1074 + (k : Int)) hng)
              have hs3 : (decS m' ++ (⟨#[112, 45]⟩ : ByteArray)).size ≤ 22 := by rw [ByteArray.size_append]; show _ + 2 ≤ 22; omega
              generalize decS m' = D at *
              generalize (-1074 + (k : Int)).natAbs = N at *
              generalize decS N = Z at *
              generalize hDD : D ++ (⟨#[112, 45]⟩ : ByteArray) = DD at *
              have HDD := Lib.hid hDD
              clear hZ0
              go_wp2_with fail
              refine (HD.out _).mono ?_; rintro e w1 ⟨rfl, hb1⟩
              go_wp2_with fail
              refine (HZ.out _).mono ?_; rintro e w2 ⟨rfl, hb2⟩
              go_wp2_with fail
              go_ret
              exact ⟨ret_str (by rw [HT.out, ← HC.out]), hb1.trans (hb2.mono hb1.size)⟩
            · exfalso; omega
      · obtain ⟨rfl, rfl⟩ := hp hx0
        have HS := Lib.hid (StripAt.start (s := 4503599627370496 + m) (by omega) (by omega))
        have hx1 : 1 ≤ x := by omega
        have hxd : ((x : Int) == 0) = false := beq_eq_false_iff_ne.2 (by omega)
        clear hz hp hs0 hE0 hi hle hn h hbl hW h0 hg hru hm1 hbd hx0
        have hadd : (m : Int) + 4503599627370496 = ((4503599627370496 + m : Nat) : Int) := by omega
        have HA := Lib.hid hadd
        clear hadd
        generalize 4503599627370496 + m = s at *
        go_enter Tryz.func78, Tryz.ntmps78
        go_wp2_with (first | (go_at_call 95; refine (HB.out _).mono ?_; rintro e w1 ⟨rfl, rfl⟩) | (go_at_call 96; refine (HE.out _).mono ?_; rintro e w1 ⟨rfl, rfl⟩) | (go_at_call 97; refine (HWh.out _).mono ?_; rintro e w1 ⟨rfl, rfl⟩))
        go_loop [7, 6] (fun y i => ∃ m' f k : Nat, y = .int .u64 m' ∧ i = .int .i64 ((x : Int) - 1075 + (k : Int)) ∧ StripAt s m' f k) (fun y _ => (intOf y).toNat)
        case atStart => exact ⟨s, 64, 0, by rw [← HA.out], by simp, HS.out⟩
        case round =>
          obtain ⟨m', f, k, rfl, rfl, hst⟩ := hrel
          have hk : k ≤ 64 := hst.2.2.1
          have hm : 0 < m' := hst.2.1
          have ha1 := mod_two m'
          have hwr := num.wrap_div m' 2 hst.2.2.2.2.2
          by_cases he : m' % 2 = 0
          · obtain ⟨f', h'⟩ := hst.step he
            have H' := Lib.hid h'
            replace ha1 : (m' : Int) % 2 = 0 := by rw [ha1, he]; rfl
            replace hwr : IntKind.u64.wrap ((m' : Int) / 2) = ((m' / 2 : Nat) : Int) := hwr
            clear he hst h'
            go_wp2
            go_round
            case rel => exact ⟨m' / 2, f', k + 1, rfl, by go_num, H'.out⟩
            case measure => simp [intOf]; omega
          · have he1 : m' % 2 = 1 := by omega
            have hst2 := hst.stop he1
            replace ha1 : (m' : Int) % 2 = 1 := by rw [ha1, he1]; rfl
            have hm2 := HM1.out
            rw [hst2.1] at HT hm2
            rw [hst2.2] at HT
            clear he he1 hst hst2 HM1 hwr
            have HD := Lib.hid (fun W => rDec_any m' W (show m' < 18446744073709551616 by omega))
            have hs1 := decS_size m'
            have hZ0 := fun W => rDec_any ((x : Int) - 1075 + (k : Int)).natAbs W (show ((x : Int) - 1075 + (k : Int)).natAbs < 18446744073709551616 by omega)
            have HZ := Lib.hid hZ0
            have hs2 := decS_size ((x : Int) - 1075 + (k : Int)).natAbs
            by_cases hng : (x : Int) - 1075 + (k : Int) < 0
            · have hneg : decide ((x : Int) - 1075 + (k : Int) < 0) = true := decide_eq_true hng
              have hw : IntKind.u64.wrap (-((x : Int) - 1075 + (k : Int))) = (((x : Int) - 1075 + (k : Int)).natAbs : Int) := by rw [IntKind.wrap_u64]; omega
              have HC := Lib.hid (szN (decS m') ((x : Int) - 1075 + (k : Int)) hng)
              have hs3 : (decS m' ++ (⟨#[112, 45]⟩ : ByteArray)).size ≤ 22 := by rw [ByteArray.size_append]; show _ + 2 ≤ 22; omega
              generalize decS m' = D at *
              generalize ((x : Int) - 1075 + (k : Int)).natAbs = N at *
              generalize decS N = Z at *
              generalize hDD : D ++ (⟨#[112, 45]⟩ : ByteArray) = DD at *
              have HDD := Lib.hid hDD
              clear hZ0
              go_wp2_with fail
              refine (HD.out _).mono ?_; rintro e w1 ⟨rfl, hb1⟩
              go_wp2_with fail
              refine (HZ.out _).mono ?_; rintro e w2 ⟨rfl, hb2⟩
              go_wp2_with fail
              go_ret
              exact ⟨ret_str (by rw [HT.out, ← HC.out]), hb1.trans (hb2.mono hb1.size)⟩
            · have hneg : decide ((x : Int) - 1075 + (k : Int) < 0) = false := decide_eq_false hng
              have hw : IntKind.u64.wrap ((x : Int) - 1075 + (k : Int)) = (((x : Int) - 1075 + (k : Int)).natAbs : Int) := by rw [IntKind.wrap_u64]; omega
              have hs3 : (decS m' ++ (⟨#[112]⟩ : ByteArray)).size ≤ 21 := by rw [ByteArray.size_append]; show _ + 1 ≤ 21; omega
              rw [szS_pos _ (by omega)] at HT
              generalize decS m' = D at *
              generalize ((x : Int) - 1075 + (k : Int)).natAbs = N at *
              generalize decS N = Z at *
              generalize hDD : D ++ (⟨#[112]⟩ : ByteArray) = DD at *
              have HDD := Lib.hid hDD
              clear hZ0
              go_wp2_with fail
              refine (HD.out _).mono ?_; rintro e w1 ⟨rfl, hb1⟩
              go_wp2_with fail
              refine (HZ.out _).mono ?_; rintro e w2 ⟨rfl, hb2⟩
              go_wp2_with fail
              go_ret
              exact ⟨ret_str HT.out.symm, hb1.trans (hb2.mono hb1.size)⟩
    · have HT : Hid (txtP a = szS (wholeN a)) := by unfold Hid txtP; rw [if_neg hi, hW]; rfl
      have hbd := wholeN_bd a (by omega)
      have h0 : 0 ≤ wholeN a := by
        unfold wholeN trI
        rw [hW, (show sgn a = false from decide_eq_false (by omega))]
        simp
      rw [hW] at HWh
      rw [szS_pos _ h0] at HT
      generalize wholeN a = x at *
      have hw : IntKind.u64.wrap x = (x.natAbs : Int) := by rw [IntKind.wrap_u64]; omega
      have HD := Lib.hid (fun W => rDec_any x.natAbs W (show x.natAbs < 18446744073709551616 by omega))
      generalize x.natAbs = n at *
      clear hi hle hn h hbl hbd hW h0 hg hru
      go_enter Tryz.func78, Tryz.ntmps78
      go_wp2_with (first | (go_at_call 95; refine (HB.out _).mono ?_; rintro e w1 ⟨rfl, rfl⟩) | (go_at_call 96; refine (HE.out _).mono ?_; rintro e w1 ⟨rfl, rfl⟩) | (go_at_call 97; refine (HWh.out _).mono ?_; rintro e w1 ⟨rfl, rfl⟩) | (go_at_call 98; refine (HD.out _).mono ?_; rintro e w1 ⟨rfl, hb⟩))
      go_ret
      exact ⟨ret_str HT.out.symm, hb⟩
theorem rText_any (a : Nat) (w : World) (h : a < 18446744073709551616) : Calls Tryz.prog 78 #[fv a] w fun e w' => e = .returned (.string (txt a)) ∧ Below w.heap.size w w' := by
  cases hn : nanB a
  · cases hs : sgn a
    · have e : txt a = txtP a := by unfold txt; rw [hn, hs]; rfl
      rw [e]
      have h1 : a < 9223372036854775808 := by unfold sgn at hs; have := of_decide_eq_false hs; omega
      exact rText_pos a w h1 hn
    · have HE : Hid (txt a = (⟨#[45]⟩ : ByteArray) ++ txtP (ng a)) := by unfold Hid txt; rw [hn, hs]; rfl
      have h1 : 9223372036854775808 ≤ a := of_decide_eq_true hs
      have h2 : ng a < 9223372036854775808 := by unfold ng; rw [if_neg (by omega)]; omega
      have h3 : nanB (ng a) = false := by
        rcases fin_cases a h with hf | ⟨h4, h5⟩ | ⟨h4, h5⟩
        · refine fin_nan _ ?_
          have := hf.2
          unfold rung at this
          exact (fin_pos _ (by unfold ng; rw [if_neg (by omega)]; omega)).1
        · have : ng a = 9218868437227405312 := by unfold rung at h4; unfold ng; rw [if_neg (by omega)]; omega
          rw [this]; exact inf_nan
        · rw [h5] at hn; cases hn
      have HP := Lib.hid (fun W => rText_pos (ng a) W h2 h3)
      have hsz : (txtP (ng a)).size ≤ 42 := txtP_size _
      have ho2 := neR (a := a) (c := a) (b := true) (by unfold eqB; rw [order_self, hn]; rfl)
      simp only [Bool.not_true] at ho2
      have HB := Lib.hid (fun W => rbelow_any a W h)
      have HN := Lib.hid (fun W => rNeg_any a W h)
      rw [decide_eq_true h1] at HB
      generalize txtP (ng a) = T at *
      generalize ng a = b at *
      clear h h1 h2 h3 hs hn
      go_enter Tryz.func78, Tryz.ntmps78
      go_wp2_with (first | (go_at_call 95; refine (HB.out _).mono ?_; rintro e w1 ⟨rfl, rfl⟩) | (go_at_call 65; refine (HN.out _).mono ?_; rintro e w1 ⟨rfl, rfl⟩) | (go_at_call 78; refine (HP.out _).mono ?_; rintro e w1 ⟨rfl, hb⟩))
      go_ret
      exact ⟨ret_str HE.out.symm, hb⟩
  · have HE : Hid (txt a = ⟨#[110, 97, 110]⟩) := by unfold Hid txt; rw [hn]; rfl
    have ho2 := neR (a := a) (c := a) (b := false) (by unfold eqB; rw [order_self, hn]; rfl)
    simp only [Bool.not_false] at ho2
    clear hn h
    go_enter Tryz.func78, Tryz.ntmps78
    go_wp2_with fail
    go_ret
    exact ⟨ret_str HE.out.symm, Below.refl _ _⟩
end Go.Proofs.YtjanpaallealgaaGreatDoor.flt
