/-
  Proved: plain laws of the values of floats. Conditions: as each theorem says. No program is in sight.
-/
import Derived.Test.YtjanpaallealgaaDoorFltPlain
namespace Go.Proofs.YtjanpaallealgaaDoor.flt
open Go Ieee Go.RowKit

/-- The significand of a rung, its place above the least, the magnitude in units of the least place. -/
def sg (r : Nat) : Nat := if r < 4503599627370496 then r else 4503599627370496 + r % 4503599627370496
def pl (r : Nat) : Nat := r / 4503599627370496 - 1
def mg (r : Nat) : Nat := sg r * 2 ^ pl r
def sgn (b : Nat) : Bool := decide (9223372036854775808 ≤ b)
def rung (b : Nat) : Nat := b % 9223372036854775808
def fin (b : Nat) : Prop := b < 18446744073709551616 ∧ rung b < 9218868437227405312
theorem e1 : double.signWeight = 9223372036854775808 := by decide
theorem e2 : double.binade = 4503599627370496 := by decide
theorem e3 : double.infRung = 9218868437227405312 := by decide
theorem e4 : double.leastPlace = -1074 := by decide
theorem e5 : double.fractionBits = 52 := by decide
theorem sgn_read (b : Nat) (h : b < 18446744073709551616) : (b / 9223372036854775808 % 2 == 1) = sgn b := by
  unfold sgn
  rw [Bool.eq_iff_iff, beq_iff_eq, decide_eq_true_iff]
  omega
theorem read_fin (b : Nat) (h : fin b) : double.read b = .number (sgn b) (sg (rung b)) (-1074 + (pl (rung b) : Nat)) := by
  unfold Format.read
  simp only [e1, e2, e3, e4]
  rw [sgn_read b h.1]
  have h2 := h.2
  unfold rung at *
  unfold sg pl
  split
  · rename_i h3; rw [Nat.div_eq_of_lt h3]; rfl
  · rfl
theorem sg_lt (r : Nat) : sg r < 9007199254740992 := by unfold sg; split <;> omega
theorem sg_ge (r : Nat) (h : 4503599627370496 ≤ r) : 4503599627370496 ≤ sg r := by unfold sg; split <;> omega
theorem mg_succ (r : Nat) : mg r < mg (r + 1) := by
  unfold mg sg pl
  by_cases h : r + 1 < 4503599627370496
  · rw [if_pos h, if_pos (by omega), Nat.div_eq_of_lt h, Nat.div_eq_of_lt (by omega)]
    simp
  · by_cases h2 : r < 4503599627370496
    · obtain rfl : r = 4503599627370495 := by omega
      decide
    · rw [if_neg h, if_neg h2]
      by_cases h3 : r % 4503599627370496 = 4503599627370495
      · have a1 : (r + 1) % 4503599627370496 = 0 := by omega
        have a2 : (r + 1) / 4503599627370496 - 1 = r / 4503599627370496 - 1 + 1 := by omega
        rw [a1, a2, h3, Nat.pow_succ]
        have : 0 < 2 ^ (r / 4503599627370496 - 1) := Nat.two_pow_pos _
        generalize 2 ^ (r / 4503599627370496 - 1) = k at *
        omega
      · have a1 : (r + 1) % 4503599627370496 = r % 4503599627370496 + 1 := by omega
        have a2 : (r + 1) / 4503599627370496 = r / 4503599627370496 := by omega
        rw [a1, a2]
        have : 0 < 2 ^ (r / 4503599627370496 - 1) := Nat.two_pow_pos _
        exact Nat.mul_lt_mul_of_pos_right (by omega) this
theorem mg_lt {r q : Nat} (h : r < q) : mg r < mg q := by
  obtain ⟨d, rfl⟩ : ∃ d, q = r + 1 + d := ⟨q - (r + 1), by omega⟩
  induction d with
  | zero => exact mg_succ r
  | succ d ih => exact Nat.lt_trans (ih (by omega)) (mg_succ _)
theorem mg_inj {r q : Nat} (h : mg r = mg q) : r = q := by
  rcases Nat.lt_trichotomy r q with h1 | h1 | h1
  · have := mg_lt h1; omega
  · exact h1
  · have := mg_lt h1; omega
theorem mg_lt_iff (r q : Nat) : mg r < mg q ↔ r < q := by
  constructor
  · intro h
    rcases Nat.lt_or_ge r q with h1 | h1
    · exact h1
    · rcases Nat.lt_or_eq_of_le h1 with h2 | h2
      · have := mg_lt h2; omega
      · subst h2; omega
  · exact mg_lt
theorem mg_zero : mg 0 = 0 := by decide
/-- The signed value in units of the least place. -/
def val (b : Nat) : Int := if sgn b then -(mg (rung b) : Int) else mg (rung b)
theorem signed_val (s : Bool) (m k : Nat) : signed s m k = if s then -((m * 2 ^ k : Nat) : Int) else ((m * 2 ^ k : Nat) : Int) := by
  unfold signed; rw [Nat.shiftLeft_eq]
theorem cmp_scale (x y : Int) (k : Nat) (hk : 0 < k) : compare (x * k) (y * k) = compare x y := by
  have hk' : (0 : Int) < k := by omega
  have hlt : ∀ a b : Int, a * k < b * k ↔ a < b := fun a b => Int.mul_lt_mul_right hk'
  have heq : ∀ a b : Int, a * k = b * k ↔ a = b := fun a b => ⟨fun h => Int.eq_of_mul_eq_mul_right (by omega) h, fun h => by rw [h]⟩
  simp only [compare, compareOfLessAndEq, hlt, heq]
theorem order_fin (a b : Nat) (ha : fin a) (hb : fin b) : double.order a b = some (compare (val a) (val b)) := by
  unfold Format.order
  rw [read_fin a ha, read_fin b hb]
  simp only [Datum.order]
  congr 1
  rw [signed_val, signed_val]
  generalize hi : pl (rung a) = i
  generalize hj : pl (rung b) = j
  unfold val mg
  rw [hi, hj]
  have hm : min (-1074 + (i : Int)) (-1074 + (j : Int)) = -1074 + ((min i j : Nat) : Int) := by omega
  rw [hm]
  have k1 : (-1074 + (i : Int) - (-1074 + ((min i j : Nat) : Int))).toNat = i - min i j := by omega
  have k2 : (-1074 + (j : Int) - (-1074 + ((min i j : Nat) : Int))).toNat = j - min i j := by omega
  rw [k1, k2]
  have p1 : 2 ^ i = 2 ^ (i - min i j) * 2 ^ (min i j) := by rw [← Nat.pow_add]; congr 1; omega
  have p2 : 2 ^ j = 2 ^ (j - min i j) * 2 ^ (min i j) := by rw [← Nat.pow_add]; congr 1; omega
  rw [p1, p2, ← Nat.mul_assoc, ← Nat.mul_assoc]
  have hp : 0 < 2 ^ (min i j) := Nat.two_pow_pos _
  generalize 2 ^ (min i j) = u at *
  generalize sg (rung a) * 2 ^ (i - min i j) = x
  generalize sg (rung b) * 2 ^ (j - min i j) = y
  rw [← cmp_scale _ _ u hp]
  congr 1
  · split <;> simp [Int.neg_mul]
  · split <;> simp [Int.neg_mul]
/-- The rung nearest to a magnitude in units of the least place. -/
def nr (M : Nat) : Nat := if M = 0 then 0 else min ((M.log2 - 52) * 4503599627370496 + Toward.even.cut false M (M.log2 - 52)) 9218868437227405312
def wd (s : Bool) (r : Nat) : Nat := if s then 9223372036854775808 + r else r
theorem cut_neg (s : Bool) (n d : Nat) : Toward.even.cut s n d = Toward.even.cut false n d := rfl
theorem nearest_unit (s : Bool) (M : Nat) : double.nearest s M (-1074) = wd s (nr M) := by
  unfold Format.nearest nr wd
  simp only [e2, e3, e4, e5, Format.word, e1]
  by_cases h : M = 0
  · simp [h]
  · simp only [h, if_false]
    have hl : max (-1074 + (M.log2 : Int) - ((52 : Nat) : Int)) (-1074) = -1074 + ((M.log2 - 52 : Nat) : Int) := by omega
    rw [hl]
    have k1 : (-1074 - (-1074 + ((M.log2 - 52 : Nat) : Int))).toNat = 0 := by omega
    have k2 : (-1074 + ((M.log2 - 52 : Nat) : Int) - -1074).toNat = M.log2 - 52 := by omega
    rw [k1, k2, Nat.shiftLeft_zero, cut_neg]
theorem cut_exact (s : Bool) (m d : Nat) : Toward.even.cut s (m * 2 ^ d) d = m := by
  by_cases hm : m = 0
  · subst hm; simp [Toward.cut]
  · have hlog : d ≤ (m * 2 ^ d).log2 := by
      rw [Nat.le_log2 (by have := Nat.two_pow_pos d; exact Nat.mul_ne_zero hm (by omega))]
      exact Nat.le_mul_of_pos_left _ (by omega)
    unfold Toward.cut
    have hmin : min d ((m * 2 ^ d).log2 + 2) = d := by omega
    simp only [hmin, Nat.one_shiftLeft]
    have hp := Nat.two_pow_pos d
    rw [Nat.mul_div_cancel _ hp, Nat.mul_mod_left]
    have : ¬ (2 ^ d = 0) := by omega
    simp [this]
theorem log_norm (m d : Nat) (h1 : 4503599627370496 ≤ m) (h2 : m < 9007199254740992) : (m * 2 ^ d).log2 = 52 + d := by
  rw [Nat.log2_eq_iff (by have := Nat.two_pow_pos d; exact Nat.mul_ne_zero (by omega) (by omega))]
  have hp := Nat.two_pow_pos d
  constructor
  · rw [Nat.pow_add]; exact Nat.mul_le_mul_right _ h1
  · rw [show 52 + d + 1 = 53 + d by omega, Nat.pow_add]; exact Nat.mul_lt_mul_of_pos_right h2 hp
theorem nr_mg (r : Nat) (h : r < 9218868437227405312) : nr (mg r) = r := by
  by_cases h0 : r < 4503599627370496
  · have hm : mg r = r := by unfold mg sg pl; rw [if_pos h0, Nat.div_eq_of_lt h0]; simp
    rw [hm]
    unfold nr
    by_cases hz : r = 0
    · simp [hz]
    · rw [if_neg hz]
      have hl : r.log2 < 52 := (Nat.log2_lt hz).2 h0
      have hd : r.log2 - 52 = 0 := by omega
      rw [hd]
      have := cut_exact false r 0
      rw [Nat.pow_zero, Nat.mul_one] at this
      rw [this]
      omega
  · have g1 := sg_ge r (by omega)
    have g2 := sg_lt r
    have hl := log_norm (sg r) (pl r) g1 g2
    unfold nr
    have hnz : mg r ≠ 0 := by unfold mg; have := Nat.two_pow_pos (pl r); exact Nat.mul_ne_zero (by omega) (by omega)
    rw [if_neg hnz]
    unfold mg
    rw [hl, show 52 + pl r - 52 = pl r by omega, cut_exact]
    unfold sg pl
    rw [if_neg h0]
    omega
theorem rep (p : Nat) : ∀ m : Nat, m < 9007199254740992 → p ≤ 2045 → ∃ r, r < 9218868437227405312 ∧ mg r = m * 2 ^ p := by
  induction p with
  | zero =>
    intro m hm _
    refine ⟨m, by omega, ?_⟩
    unfold mg sg pl
    by_cases h : m < 4503599627370496
    · rw [if_pos h, Nat.div_eq_of_lt h]
    · rw [if_neg h, show m / 4503599627370496 - 1 = 0 by omega, show 4503599627370496 + m % 4503599627370496 = m by omega]
  | succ p ih =>
    intro m hm hp
    by_cases h : m < 4503599627370496
    · obtain ⟨r, hr, e⟩ := ih (2 * m) (by omega) (by omega)
      exact ⟨r, hr, by rw [e, Nat.pow_succ, Nat.mul_comm 2 m, Nat.mul_assoc, Nat.mul_comm 2 (2 ^ p)]⟩
    · refine ⟨(p + 2) * 4503599627370496 + (m - 4503599627370496), by omega, ?_⟩
      unfold mg sg pl
      rw [if_neg (by omega), show ((p + 2) * 4503599627370496 + (m - 4503599627370496)) / 4503599627370496 - 1 = p + 1 by omega,
        show 4503599627370496 + ((p + 2) * 4503599627370496 + (m - 4503599627370496)) % 4503599627370496 = m by omega]
theorem nr_rep (m p : Nat) (hm : m < 9007199254740992) (hp : p ≤ 2045) : nr (m * 2 ^ p) < 9218868437227405312 ∧ mg (nr (m * 2 ^ p)) = m * 2 ^ p := by
  obtain ⟨r, hr, e⟩ := rep p m hm hp
  generalize m * 2 ^ p = M at *
  have h := nr_mg r hr
  rw [e] at h
  rw [h]
  exact ⟨hr, e⟩
end Go.Proofs.YtjanpaallealgaaDoor.flt
