/-
  Proved: plain laws of exact products, quotients by powers of two, differences of floats. Conditions: as each theorem says. No program is in sight.
-/
import Derived.Test.YtjanpaallealgaaDoorFltWhole
namespace Go.Proofs.YtjanpaallealgaaDoor.flt
open Go Ieee Go.RowKit

abbrev INF : Nat := 9218868437227405312
theorem pfin (a : Nat) (h : a < INF) : fin a ∧ rung a = a ∧ sgn a = false := by
  unfold fin rung sgn
  unfold INF at h
  refine ⟨by omega, by omega, decide_eq_false (by omega)⟩
theorem pread (a : Nat) (h : a < INF) : double.read a = .number false (sg a) (-1074 + (pl a : Nat)) := by
  have := read_fin a (pfin a h).1
  rwa [(pfin a h).2.1, (pfin a h).2.2] at this
theorem pval (a : Nat) (h : a < INF) : val a = (mg a : Int) := by
  unfold val
  rw [(pfin a h).2.1, (pfin a h).2.2]
  rfl
theorem mg_def (r : Nat) : sg r * 2 ^ pl r = mg r := rfl
theorem near_mg (s : Bool) (r : Nat) (h : r < INF) : double.nearest s (mg r) (-1074) = wd s r := by
  have := nearest_unit s (mg r)
  rw [nr_mg r h] at this
  exact this
theorem mul_exact (a b r : Nat) (ha : a < INF) (hb : b < INF) (hr : r < INF) (h : mg a * mg b = mg r * 2 ^ PP) : fop .mul a b = some r := by
  show ((double.read a).product (double.read b)).map double.write = some r
  rw [pread a ha, pread b hb]
  simp only [Datum.product, Option.map_some, Format.write, Bool.xor_false]
  congr 1
  have h1 : double.nearest false (sg a * sg b * 2 ^ (pl a + pl b)) (-2148) = double.nearest false (sg a * sg b) (-1074 + (pl a : Int) + (-1074 + (pl b : Int))) := by
    rw [nearest_scale]; congr 1; omega
  have h2 : sg a * sg b * 2 ^ (pl a + pl b) = mg r * 2 ^ PP := by
    rw [← h, ← mg_def a, ← mg_def b, Nat.pow_add]
    generalize sg a = x; generalize sg b = y; generalize 2 ^ pl a = u; generalize 2 ^ pl b = v
    ac_rfl
  rw [← h1, h2, nearest_scale, show (-2148 : Int) + (PP : Int) = -1074 by rw [hPP]; rfl, near_mg false r hr]
  rfl
theorem pow52 : (2 : Nat) ^ 52 = 4503599627370496 := by decide
theorem log52 : (4503599627370496 : Nat).log2 = 52 := by decide +kernel
theorem quo_pow (a d : Nat) (ha : fin a) (hd : d < INF) (hs : sg d = 4503599627370496) :
    fop .quo a d = some (double.nearest (sgn a) (sg (rung a)) ((pl (rung a) : Int) - (pl d : Int) - 52)) := by
  show ((double.read a).quotient 54 (double.read d)).map double.write = _
  rw [read_fin a ha, pread d hd, hs]
  have hm := sg_lt (rung a)
  generalize sg (rung a) = m at *
  generalize pl (rung a) = i at *
  generalize pl d = j at *
  simp only [Datum.quotient, show ¬ (4503599627370496 : Nat) = 0 by omega, if_false, Option.map_some, Format.write, Bool.xor_false]
  congr 1
  have hl : m.log2 ≤ 52 := by
    by_cases h0 : m = 0
    · subst h0; decide
    · exact Nat.le_of_lt_succ ((Nat.log2_lt h0).2 hm)
  obtain ⟨t, ht⟩ : ∃ t, 54 + (4503599627370496 : Nat).log2 - m.log2 = 52 + t := ⟨54 - m.log2, by rw [log52]; omega⟩
  rw [ht, Nat.shiftLeft_eq]
  have e1 : m * 2 ^ (52 + t) = m * 2 ^ t * 4503599627370496 := by rw [Nat.pow_add, pow52]; ac_rfl
  rw [e1, Nat.mul_div_cancel _ (by omega), Nat.mul_mod_left]
  have e2 : 2 * (m * 2 ^ t) + ((0 : Nat) != 0).toNat = m * 2 ^ (t + 1) := by
    show 2 * (m * 2 ^ t) + 0 = m * 2 ^ (t + 1)
    rw [Nat.pow_succ]
    generalize 2 ^ t = u
    rw [Nat.add_zero, Nat.mul_comm u 2, Nat.mul_left_comm]
  rw [e2, nearest_scale]
  congr 1
  omega
theorem quo_exact (a d r : Nat) (ha : fin a) (hd : d < INF) (hs : sg d = 4503599627370496) (hr : r < INF) (h : mg (rung a) * 2 ^ PP = mg r * 2 ^ (52 + pl d)) : fop .quo a d = some (wd (sgn a) r) := by
  rw [quo_pow a d ha hd hs]
  congr 1
  have h1 : double.nearest (sgn a) (sg (rung a)) ((pl (rung a) : Int) - (pl d : Int) - 52) = double.nearest (sgn a) (mg (rung a) * 2 ^ PP) (-(pl d : Int) - 52 - (PP : Int)) := by
    rw [nearest_scale, ← mg_def, nearest_scale]; congr 1; omega
  rw [h1, h, nearest_scale, show -(pl d : Int) - 52 - (PP : Int) + ((52 + pl d : Nat) : Int) = -1074 by rw [hPP]; omega, near_mg _ r hr]
abbrev two : Nat := 4611686018427387904
theorem two_ok : two < INF ∧ sg two = 4503599627370496 ∧ pl two = 1023 := by decide
theorem mg_small (q : Nat) (h : q < 9007199254740992) : mg q = q := by
  unfold mg sg pl
  by_cases h1 : q < 4503599627370496
  · rw [if_pos h1, Nat.div_eq_of_lt h1]; simp
  · rw [if_neg h1, show q / 4503599627370496 - 1 = 0 by omega]; omega
theorem cut_one (m : Nat) : 2 * Toward.even.cut false m 1 = m ∨ 2 * Toward.even.cut false m 1 = m + 1 ∨ 2 * Toward.even.cut false m 1 + 1 = m := by
  unfold Toward.cut
  simp only [show min 1 (m.log2 + 2) = 1 by omega, Nat.one_shiftLeft, Nat.pow_one]
  generalize hb : (decide (2 < 2 * (m % 2)) || 2 == 2 * (m % 2) && m / 2 % 2 == 1) = b
  by_cases h : m % 2 = 0
  · rw [h] at hb
    simp at hb
    subst hb
    simp
    omega
  · cases b <;> simp <;> omega
theorem wd_false (r : Nat) : wd false r = r := rfl
theorem half_low (m : Nat) (hs : m < 9007199254740992) : double.nearest false m (-1075) = Toward.even.cut false m 1 := by
  by_cases h0 : m = 0
  · subst h0; decide +kernel
  · have hl : m.log2 ≤ 52 := Nat.le_of_lt_succ ((Nat.log2_lt h0).2 hs)
    have hc := cut_one m
    unfold Format.nearest
    rw [if_neg h0]
    simp only [e2, e3, e4, e5, Format.word]
    have hmx : max (-1075 + (m.log2 : Int) - ((52 : Nat) : Int)) (-1074) = -1074 := by omega
    rw [hmx]
    have k1 : ((-1075 : Int) - -1074).toNat = 0 := by decide
    have k2 : ((-1074 : Int) - -1075).toNat = 1 := by decide
    have k3 : ((-1074 : Int) - -1074).toNat = 0 := by decide
    rw [k1, k2, k3, Nat.shiftLeft_zero, Nat.zero_mul, Nat.zero_add]
    generalize Toward.even.cut false m 1 = q at *
    simp only [Bool.false_eq_true, if_false]
    omega
theorem half_gen (a d : Nat) (ha : a < INF) (hd : d < INF) (hs' : sg d = 4503599627370496) (hp' : pl d = 1023) : ∃ q, q < INF ∧ fop .quo a d = some q ∧ (2 * mg q = mg a ∨ 2 * mg q = mg a + 1 ∨ 2 * mg q + 1 = mg a) := by
  have hq := quo_pow a d (pfin a ha).1 hd hs'
  rw [(pfin a ha).2.1, (pfin a ha).2.2, hp'] at hq
  have hs := sg_lt a
  have hpl : pl a ≤ 2045 := by unfold pl; unfold INF at ha; omega
  have hm0 := mg_def a
  generalize sg a = m at *
  generalize pl a = i at *
  by_cases hp : i = 0
  · subst hp
    rw [Nat.pow_zero, Nat.mul_one] at hm0
    rw [← hm0]
    have hc := cut_one m
    have e : (((0 : Nat) : Int) - ((1023 : Nat) : Int) - 52) = -1075 := by omega
    rw [e, half_low m hs] at hq
    generalize Toward.even.cut false m 1 = q at *
    have hq2 : q < 9007199254740992 := by omega
    exact ⟨q, by unfold INF; omega, hq, by rw [mg_small q hq2]; exact hc⟩
  · have h1 : ((i : Int) - ((1023 : Nat) : Int) - 52) = -1074 + ((i - 1 : Nat) : Int) := by omega
    rw [h1, nearest_up, wd_false] at hq
    have hr := nr_rep m (i - 1) hs (by omega)
    generalize nr (m * 2 ^ (i - 1)) = q at *
    refine ⟨q, hr.1, hq, .inl ?_⟩
    rw [hr.2, ← hm0]
    have : 2 ^ i = 2 ^ (i - 1) * 2 := by rw [← Nat.pow_succ]; congr 1; omega
    rw [this]
    generalize 2 ^ (i - 1) = u
    rw [Nat.mul_comm u 2, Nat.mul_left_comm]
theorem half (a : Nat) (ha : a < INF) : ∃ q, q < INF ∧ fop .quo a two = some q ∧ (2 * mg q = mg a ∨ 2 * mg q = mg a + 1 ∨ 2 * mg q + 1 = mg a) :=
  half_gen a two ha two_ok.1 two_ok.2.1 two_ok.2.2
theorem half_even (a r : Nat) (ha : a < INF) (h : mg a = 2 * mg r) : fop .quo a two = some r := by
  obtain ⟨q, h1, h2, h3⟩ := half a ha
  rw [h2]
  congr 1
  apply mg_inj
  omega
theorem sub_exact (a b r : Nat) (ha : a < INF) (hb : b < INF) (hr : r < INF) (h : mg a = mg b + mg r) : fop .sub a b = some r := by
  rw [sub_fin a b (pfin a ha).1 (pfin b hb).1, pval a ha, pval b hb, (pfin a ha).2.2, h]
  congr 1
  have e : ((mg b + mg r : Nat) : Int) - (mg b : Int) = (mg r : Int) := by omega
  rw [e]
  unfold rn
  rw [Int.natAbs_natCast, nr_mg r hr]
  have : (if (mg r : Int) = 0 then (false && !sgn b) else decide ((mg r : Int) < 0)) = false := by
    split
    · rfl
    · exact decide_eq_false (by omega)
  rw [this]
  rfl
/-- Beyond the greatest place. -/
@[irreducible] def TX : Nat := 2098
@[irreducible] def PX : Nat := 2045
theorem hPX : PX = 2045 := by unfold PX; rfl
theorem hTX : TX = 53 + PX := by unfold TX PX; rfl
theorem mg_top (r : Nat) (h : r < INF) : mg r < 2 ^ TX := by
  have h1 := sg_lt r
  have h2 : pl r ≤ 2045 := by unfold pl; unfold INF at h; omega
  rw [← mg_def, hTX, Nat.pow_add]
  have h3 : 2 ^ pl r ≤ 2 ^ PX := Nat.pow_le_pow_right (by omega) (by rw [hPX]; exact h2)
  have h4 : 0 < 2 ^ pl r := Nat.two_pow_pos _
  generalize 2 ^ PX = u at *
  generalize 2 ^ pl r = v at *
  show sg r * v < 9007199254740992 * u
  exact Nat.lt_of_lt_of_le (Nat.mul_lt_mul_of_pos_right h1 h4) (Nat.mul_le_mul_left _ h3)
theorem rep_any (m p : Nat) (hm : m < 9007199254740992) (h : m * 2 ^ p < 2 ^ TX) : ∃ r, r < INF ∧ mg r = m * 2 ^ p := by
  by_cases hp : p ≤ 2045
  · exact rep p m hm hp
  · obtain ⟨d, rfl⟩ : ∃ d, p = d + PX := ⟨p - PX, by rw [hPX]; omega⟩
    rw [Nat.pow_add, ← Nat.mul_assoc] at h ⊢
    have hm2 : m * 2 ^ d < 9007199254740992 := by
      rw [hTX, Nat.pow_add] at h
      have := Nat.lt_of_mul_lt_mul_right h
      exact this
    exact rep PX _ hm2 (by rw [hPX]; omega)
theorem mg_le_iff (r q : Nat) : mg r ≤ mg q ↔ r ≤ q := by have := mg_lt_iff q r; omega
theorem pl_mono {r q : Nat} (h : r ≤ q) : pl r ≤ pl q := by unfold pl; omega
/-- The difference of two near floats is a float. -/
theorem near_sub (a b : Nat) (ha : a < INF) (hb : b < INF) (h1 : mg b ≤ mg a) (h2 : mg a ≤ 2 * mg b) : ∃ r, r < INF ∧ mg a = mg b + mg r := by
  have hpl := pl_mono ((mg_le_iff b a).1 h1)
  have hs := sg_lt b
  have ht := mg_top a ha
  have ea : mg a = sg a * 2 ^ (pl a - pl b) * 2 ^ pl b := by
    rw [← mg_def a, Nat.mul_assoc, ← Nat.pow_add]; congr 2; omega
  have eb : mg b = sg b * 2 ^ pl b := rfl
  have hp := Nat.two_pow_pos (pl b)
  generalize sg a * 2 ^ (pl a - pl b) = A at *
  rw [ea, eb] at h1 h2
  rw [← Nat.mul_assoc] at h2
  have h3 := Nat.le_of_mul_le_mul_right h1 hp
  have h4 := Nat.le_of_mul_le_mul_right h2 hp
  have h5 : (A - sg b) * 2 ^ pl b ≤ mg a := by rw [ea]; exact Nat.mul_le_mul_right _ (Nat.sub_le _ _)
  obtain ⟨r, hr, e⟩ := rep_any (A - sg b) (pl b) (by omega) (by omega)
  refine ⟨r, hr, ?_⟩
  rw [e, ea, eb, ← Nat.add_mul]
  congr 1
  omega
end Go.Proofs.YtjanpaallealgaaDoor.flt
