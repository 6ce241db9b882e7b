/-
  Proved: plain laws of rounding, sums, products of floats. Conditions: as each theorem says. No program is in sight.
-/
import Derived.Test.YtjanpaallealgaaDoorFltVal
namespace Go.Proofs.YtjanpaallealgaaDoor.flt
open Go Ieee Go.RowKit

theorem log2_scale (m k : Nat) (hm : m ≠ 0) : (m * 2 ^ k).log2 = m.log2 + k := by
  have hp := Nat.two_pow_pos k
  rw [Nat.log2_eq_iff (Nat.mul_ne_zero hm (by omega))]
  have h := (Nat.log2_eq_iff hm).1 rfl
  constructor
  · rw [Nat.pow_add]; exact Nat.mul_le_mul_right _ h.1
  · rw [show m.log2 + k + 1 = m.log2 + 1 + k by omega, Nat.pow_add]; exact Nat.mul_lt_mul_of_pos_right h.2 hp
theorem cut_scale (s : Bool) (m k d : Nat) (hm : m ≠ 0) : Toward.even.cut s (m * 2 ^ k) (d + k) = Toward.even.cut s m d := by
  unfold Toward.cut
  have hmin : min (d + k) ((m * 2 ^ k).log2 + 2) = min d (m.log2 + 2) + k := by rw [log2_scale m k hm]; omega
  simp only [hmin, Nat.one_shiftLeft, Nat.pow_add]
  generalize 2 ^ (min d (m.log2 + 2)) = g
  have hp := Nat.two_pow_pos k
  generalize 2 ^ k = u at *
  rw [Nat.mul_div_mul_right _ _ hp, Nat.mul_mod_mul_right]
  have h1 : (g * u < 2 * (m % g * u)) = (g < 2 * (m % g)) := by
    rw [← Nat.mul_assoc]; exact propext (Nat.mul_lt_mul_right hp)
  have h2 : (g * u == 2 * (m % g * u)) = (g == 2 * (m % g)) := by
    rw [← Nat.mul_assoc, Bool.eq_iff_iff, beq_iff_eq, beq_iff_eq]
    exact ⟨fun h => Nat.eq_of_mul_eq_mul_right hp h, fun h => congrArg (· * u) h⟩
  simp only [h1, h2]
theorem cut_zero (s : Bool) (m : Nat) : Toward.even.cut s m 0 = m := by
  have := cut_exact s m 0
  rwa [Nat.pow_zero, Nat.mul_one] at this
theorem nearest_scale (s : Bool) (m k : Nat) (p : Int) : double.nearest s (m * 2 ^ k) p = double.nearest s m (p + k) := by
  have hp := Nat.two_pow_pos k
  by_cases hm : m = 0
  · subst hm; simp [Format.nearest]
  · unfold Format.nearest
    rw [if_neg (Nat.mul_ne_zero hm (by omega)), if_neg hm]
    simp only [e2, e3, e4, e5]
    rw [log2_scale m k hm]
    have hl : max (p + ((m.log2 + k : Nat) : Int) - ((52 : Nat) : Int)) (-1074) = max (p + (k : Int) + (m.log2 : Int) - ((52 : Nat) : Int)) (-1074) := by omega
    rw [hl]
    generalize max (p + (k : Int) + (m.log2 : Int) - ((52 : Nat) : Int)) (-1074) = L
    have key : Toward.even.cut s ((m * 2 ^ k) <<< (p - L).toNat) (L - p).toNat = Toward.even.cut s (m <<< (p + (k : Int) - L).toNat) (L - (p + (k : Int))).toNat := by
      rw [Nat.shiftLeft_eq, Nat.shiftLeft_eq]
      by_cases c1 : L ≤ p
      · have a1 : (L - p).toNat = 0 := by omega
        have a2 : (L - (p + (k : Int))).toNat = 0 := by omega
        have a3 : (p + (k : Int) - L).toNat = k + (p - L).toNat := by omega
        rw [a1, a2, a3, Nat.pow_add, Nat.mul_assoc]
      · by_cases c2 : L ≤ p + k
        · have a1 : (p - L).toNat = 0 := by omega
          have a2 : (L - (p + (k : Int))).toNat = 0 := by omega
          obtain ⟨j, hj⟩ : ∃ j, (p + (k : Int) - L).toNat = j := ⟨_, rfl⟩
          obtain ⟨i, hi⟩ : ∃ i, (L - p).toNat = i := ⟨_, rfl⟩
          have hk : k = j + i := by omega
          rw [a1, a2, hj, hi, hk, Nat.pow_zero, Nat.mul_one, Nat.pow_add, ← Nat.mul_assoc, cut_exact, cut_zero]
        · have a1 : (p - L).toNat = 0 := by omega
          have a2 : (p + (k : Int) - L).toNat = 0 := by omega
          have a3 : (L - p).toNat = (L - (p + (k : Int))).toNat + k := by omega
          rw [a1, a2, a3, Nat.pow_zero, Nat.mul_one, Nat.mul_one, cut_scale _ _ _ _ hm]
    rw [key]
theorem nearest_up (s : Bool) (m k : Nat) : double.nearest s m (-1074 + (k : Int)) = wd s (nr (m * 2 ^ k)) := by
  rw [← nearest_scale, nearest_unit]
theorem fin_wd (s : Bool) (r : Nat) (h : r < 9218868437227405312) : fin (wd s r) := by
  unfold fin wd rung
  split <;> omega
theorem rung_wd (s : Bool) (r : Nat) (h : r ≤ 9218868437227405312) : rung (wd s r) = r := by
  unfold wd rung
  split <;> omega
theorem sgn_wd (s : Bool) (r : Nat) (h : r ≤ 9218868437227405312) : sgn (wd s r) = s := by
  unfold wd sgn
  cases s <;> simp <;> omega
theorem val_wd (s : Bool) (r : Nat) (h : r < 9218868437227405312) : val (wd s r) = if s then -(mg r : Int) else mg r := by
  unfold val
  rw [sgn_wd s r (by omega), rung_wd s r (by omega)]
theorem wd_self (b : Nat) (h : b < 18446744073709551616) : wd (sgn b) (rung b) = b := by
  unfold wd sgn rung
  by_cases h1 : 9223372036854775808 ≤ b <;> simp [h1] <;> omega
theorem nr_le (M : Nat) : nr M ≤ 9218868437227405312 := by
  unfold nr; split <;> omega
/-- The float nearest to an exact value in units. -/
def rn (z : Int) (s0 : Bool) : Nat := wd (if z = 0 then s0 else decide (z < 0)) (nr z.natAbs)
theorem sum_num (s t : Bool) (m n i j : Nat) : ((Datum.number s m (-1074 + (i : Int))).sum (.number t n (-1074 + (j : Int)))).map double.write =
    some (rn ((if s then -((m * 2 ^ i : Nat) : Int) else ((m * 2 ^ i : Nat) : Int)) + (if t then -((n * 2 ^ j : Nat) : Int) else ((n * 2 ^ j : Nat) : Int))) (s && t)) := by
  have hm : min (-1074 + (i : Int)) (-1074 + (j : Int)) = -1074 + ((min i j : Nat) : Int) := by omega
  have k1 : (-1074 + (i : Int) - (-1074 + ((min i j : Nat) : Int))).toNat = i - min i j := by omega
  have k2 : (-1074 + (j : Int) - (-1074 + ((min i j : Nat) : Int))).toNat = j - min i j := by omega
  have p1 : 2 ^ i = 2 ^ (i - min i j) * 2 ^ (min i j) := by rw [← Nat.pow_add]; congr 1; omega
  have p2 : 2 ^ j = 2 ^ (j - min i j) * 2 ^ (min i j) := by rw [← Nat.pow_add]; congr 1; omega
  simp only [Datum.sum, Option.map_some, hm, k1, k2, Format.write, nearest_up, signed_val]
  congr 1
  rw [p1, p2, ← Nat.mul_assoc, ← Nat.mul_assoc]
  have hp : 0 < 2 ^ (min i j) := Nat.two_pow_pos _
  generalize 2 ^ (min i j) = u at *
  generalize m * 2 ^ (i - min i j) = x
  generalize n * 2 ^ (j - min i j) = y
  have hx : ∀ (s : Bool) (x : Nat), (if s then -((x * u : Nat) : Int) else ((x * u : Nat) : Int)) = (if s then -(x : Int) else (x : Int)) * (u : Int) := by
    intro s x; cases s <;> simp [Int.neg_mul]
  rw [hx, hx, ← Int.add_mul]
  generalize (if s then -(x : Int) else (x : Int)) + (if t then -(y : Int) else (y : Int)) = z
  unfold rn
  have hu : (0 : Int) < u := by omega
  have z1 : (z * u = 0) = (z = 0) := by
    apply propext
    constructor
    · intro h; rcases Int.mul_eq_zero.1 h with h | h <;> omega
    · intro h; rw [h]; simp
  have z2 : (z * u < 0) = (z < 0) := by
    apply propext
    constructor
    · intro h
      rcases Int.lt_or_le z 0 with h1 | h1
      · exact h1
      · have := Int.mul_nonneg h1 (Int.le_of_lt hu); omega
    · intro h; exact Int.mul_neg_of_neg_of_pos h hu
  simp only [z1, z2, Int.natAbs_mul, Int.natAbs_natCast]
theorem val_parts (a : Nat) : val a = (if sgn a then -((sg (rung a) * 2 ^ pl (rung a) : Nat) : Int) else ((sg (rung a) * 2 ^ pl (rung a) : Nat) : Int)) := rfl
theorem add_fin (a b : Nat) (ha : fin a) (hb : fin b) : fop .add a b = some (rn (val a + val b) (sgn a && sgn b)) := by
  show ((double.read a).sum (double.read b)).map double.write = _
  rw [read_fin a ha, read_fin b hb, sum_num, ← val_parts, ← val_parts]
theorem sub_fin (a b : Nat) (ha : fin a) (hb : fin b) : fop .sub a b = some (rn (val a - val b) (sgn a && !sgn b)) := by
  show ((double.read a).sum (double.read b).opposite).map double.write = _
  rw [read_fin a ha, read_fin b hb]
  show ((Datum.number (sgn a) (sg (rung a)) (-1074 + (pl (rung a) : Nat))).sum (Datum.number (!sgn b) (sg (rung b)) (-1074 + (pl (rung b) : Nat)))).map double.write = _
  rw [sum_num, val_parts, val_parts]
  congr 2
  cases sgn b <;> simp <;> omega
/-- The float of a natural number. -/
def fl (n : Nat) : Nat := double.nearest false n 0
theorem floatOfInt_nat (n : Nat) : floatOfInt .f64 (n : Int) = fl n := by
  show double.nearest (decide ((n : Int) < 0)) (n : Int).natAbs 0 = _
  rw [Int.natAbs_natCast, decide_eq_false (by omega)]
  rfl
theorem floatOfInt_neg (n : Nat) (h : 0 < n) : floatOfInt .f64 (-(n : Int)) = double.nearest true n 0 := by
  show double.nearest (decide (-(n : Int) < 0)) (-(n : Int)).natAbs 0 = _
  rw [Int.natAbs_neg, Int.natAbs_natCast, decide_eq_true (by omega)]
/-- How many places lie below the point. -/
@[irreducible] def PP : Nat := 1074
theorem hPP : PP = 1074 := by unfold PP; rfl
theorem near_int (s : Bool) (n : Nat) : double.nearest s n 0 = wd s (nr (n * 2 ^ PP)) := by
  have := nearest_up s n PP
  rwa [show (-1074 : Int) + (PP : Int) = 0 by rw [hPP]; rfl] at this
theorem rep_int (n : Nat) (h : n ≤ 9007199254740992) : nr (n * 2 ^ PP) < 9218868437227405312 ∧ mg (nr (n * 2 ^ PP)) = n * 2 ^ PP := by
  rcases Nat.lt_or_eq_of_le h with h1 | h1
  · exact nr_rep n PP h1 (by rw [hPP]; omega)
  · have := nr_rep 4503599627370496 (PP + 1) (by omega) (by rw [hPP]; omega)
    have e : 4503599627370496 * 2 ^ (PP + 1) = n * 2 ^ PP := by rw [h1, Nat.pow_succ]; omega
    rw [e] at this
    exact this
theorem fin_int (s : Bool) (n : Nat) (h : n ≤ 9007199254740992) : fin (double.nearest s n 0) := by
  rw [near_int]; exact fin_wd _ _ (rep_int n h).1
theorem val_int (s : Bool) (n : Nat) (h : n ≤ 9007199254740992) : val (double.nearest s n 0) = if s then -((n * 2 ^ PP : Nat) : Int) else ((n * 2 ^ PP : Nat) : Int) := by
  rw [near_int, val_wd _ _ (rep_int n h).1, (rep_int n h).2]
theorem read_int (s : Bool) (n : Nat) (h : n < 9007199254740992) : ∃ a : Nat, double.read (double.nearest s n 0) = .number s (n * 2 ^ a) (-(a : Int)) := by
  have hr := rep_int n (by omega)
  have hf := fin_int s n (by omega)
  rw [read_fin _ hf, near_int, sgn_wd _ _ (nr_le _), rung_wd _ _ (nr_le _)]
  obtain ⟨r, hreq⟩ : ∃ r, nr (n * 2 ^ PP) = r := ⟨_, rfl⟩
  rw [hreq] at hr ⊢
  have hm : sg r * 2 ^ pl r = n * 2 ^ PP := hr.2
  have hle : pl r ≤ PP := by
    by_cases h0 : r < 4503599627370496
    · unfold pl; rw [Nat.div_eq_of_lt h0]; omega
    · have g1 := sg_ge r (by omega)
      have h3 : 4503599627370496 * 2 ^ pl r < 9007199254740992 * 2 ^ PP := Nat.lt_of_le_of_lt (Nat.mul_le_mul_right _ g1) (by rw [hm]; exact Nat.mul_lt_mul_of_pos_right h (Nat.two_pow_pos _))
      have h4 : 2 ^ pl r < 2 ^ (PP + 1) := by rw [Nat.pow_succ]; omega
      have := (Nat.pow_lt_pow_iff_right (by omega : 1 < 2)).1 h4
      omega
  refine ⟨PP - pl r, ?_⟩
  have hp := Nat.two_pow_pos (pl r)
  have e : sg r = n * 2 ^ (PP - pl r) := by
    have : n * 2 ^ PP = n * 2 ^ (PP - pl r) * 2 ^ pl r := by rw [Nat.mul_assoc, ← Nat.pow_add, Nat.sub_add_cancel hle]
    rw [this] at hm
    exact Nat.eq_of_mul_eq_mul_right hp hm
  have e' : -1074 + (pl r : Int) = -((PP - pl r : Nat) : Int) := by have := hPP; omega
  rw [e, e']
theorem mul_int (n k : Nat) (hn : n < 9007199254740992) (hk : k < 9007199254740992) : fop .mul (fl n) (fl k) = some (fl (n * k)) := by
  obtain ⟨a, ha⟩ := read_int false n hn
  obtain ⟨b, hb⟩ := read_int false k hk
  show ((double.read (double.nearest false n 0)).product (double.read (double.nearest false k 0))).map double.write = _
  rw [ha, hb]
  simp only [Datum.product, Option.map_some, Format.write, Bool.xor_false]
  have h1 : n * 2 ^ a * (k * 2 ^ b) = n * k * 2 ^ (a + b) := by rw [Nat.pow_add]; ac_rfl
  rw [h1, nearest_scale, show -(a : Int) + -(b : Int) + ((a + b : Nat) : Int) = 0 by omega]
  rfl
theorem val_fl (n : Nat) (hn : n ≤ 9007199254740992) : val (fl n) = ((n * 2 ^ PP : Nat) : Int) := by unfold fl; rw [val_int false n hn]; rfl
theorem fin_fl (n : Nat) (hn : n ≤ 9007199254740992) : fin (fl n) := fin_int false n hn
theorem sgn_fl (n : Nat) : sgn (fl n) = false := by unfold fl; rw [near_int, sgn_wd _ _ (nr_le _)]
theorem add_int (n k : Nat) (hn : n < 9007199254740992) (hk : k < 9007199254740992) : fop .add (fl n) (fl k) = some (fl (n + k)) := by
  rw [add_fin _ _ (fin_fl n (by omega)) (fin_fl k (by omega)), val_fl n (by omega), val_fl k (by omega), sgn_fl, ← Int.natCast_add, ← Nat.add_mul]
  have h1 : (fl (n + k)) = wd false (nr ((n + k) * 2 ^ PP)) := near_int false (n + k)
  rw [h1]
  unfold rn
  rw [Int.natAbs_natCast]
  have h2 : (if (((n + k) * 2 ^ PP : Nat) : Int) = 0 then (false && sgn (fl k)) else decide ((((n + k) * 2 ^ PP : Nat) : Int) < 0)) = false := by
    split
    · rfl
    · exact decide_eq_false (by omega)
  rw [h2]
end Go.Proofs.YtjanpaallealgaaDoor.flt
