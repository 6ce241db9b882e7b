/-
  Proved: plain facts on numbers as bytes and as decimal digits: that what is written is read back, step by step. Conditions: as each theorem says. No program is in sight.
-/
import Derived.Laws.Bits64b
import Derived.Laws.BytesArg
namespace Go.Proofs.Ytifhnpkapgaboaa.num

/-- Byte i of a number. -/
def byteAt (x i : Nat) : Int := (x : Int) / 2 ^ (8 * i) % 256
def bytesTo (x n : Nat) : List Int := (List.range n).map (byteAt x)
def rowTo (x n k : Nat) : List Value := (List.range n).map fun i => if i < k then .int .u8 (byteAt x i) else .int .u8 0

theorem rowTo_get (x n k j : Nat) (h : j < n) : (rowTo x n k)[j]? = some (if j < k then .int .u8 (byteAt x j) else .int .u8 0) := by
  simp [rowTo, h]
theorem rowTo_zero (x n : Nat) : rowTo x n 0 = List.replicate n (.int .u8 0) := by
  apply List.ext_getElem?; intro j
  by_cases h : j < n
  · rw [rowTo_get _ _ _ _ h]; simp [h]
  · simp [rowTo, h]
theorem rowTo_set (x n k : Nat) (h : k < n) : (rowTo x n k).set k (.int .u8 (byteAt x k)) = rowTo x n (k + 1) := by
  apply List.ext_getElem?; intro j
  rw [List.getElem?_set]
  by_cases hj : j < n
  · rw [rowTo_get _ _ _ _ hj, rowTo_get _ _ _ _ hj]
    by_cases e : k = j
    · subst e; simp [rowTo, h]
    · have : j < k + 1 ↔ j < k := by omega
      simp [e, this]
  · have : ¬ k = j := by omega
    simp [rowTo, hj, this]
theorem rowTo_full (x n : Nat) : rowTo x n n = (bytesTo x n).map (Value.int .u8) := by
  apply List.ext_getElem?; intro j
  by_cases h : j < n
  · rw [rowTo_get _ _ _ _ h]; simp [bytesTo, h]
  · simp [rowTo, bytesTo, h]
theorem bytesTo_len (x n : Nat) : (bytesTo x n).length = n := by simp [bytesTo]
theorem bytesTo_get (x n j : Nat) (h : j < n) : (bytesTo x n).getD j 0 = byteAt x j := by simp [bytesTo, h]
theorem bytesTo_succ (x n : Nat) : bytesTo x (n + 1) = bytesTo x n ++ [byteAt x n] := by simp [bytesTo, List.range_succ]
theorem two_pow_8 (n : Nat) : (2 : Nat) ^ (8 * n) = 256 ^ n := by rw [Nat.pow_mul]
theorem byteAt_nat (x i : Nat) : byteAt x i = ((x / 256 ^ i % 256 : Nat) : Int) := by
  unfold byteAt
  rw [show ((2 : Int) ^ (8 * i)) = ((2 ^ (8 * i) : Nat) : Int) from by norm_cast, two_pow_8]
  generalize 256 ^ i = p
  rw [← Int.natCast_ediv]
  generalize x / p = q
  omega
theorem byteAt_step (x k : Nat) : ((x / 256 ^ k : Nat) : Int) % 256 = byteAt x k := by
  rw [byteAt_nat]
  generalize x / 256 ^ k = q
  omega
theorem div_step (x k : Nat) : x / 256 ^ k / 256 = x / 256 ^ (k + 1) := by rw [Nat.div_div_eq_div_mul, Nat.pow_succ]
theorem over_iff (x n : Nat) : (0 : Int) < (x : Int) / 2 ^ (8 * n) ↔ 256 ^ n ≤ x := by
  rw [show ((2 : Int) ^ (8 * n)) = ((2 ^ (8 * n) : Nat) : Int) from by norm_cast, two_pow_8]
  have h : (0 : Nat) < 256 ^ n := Nat.pow_pos (by omega)
  rw [show ((x : Int) / ((256 ^ n : Nat) : Int)) = ((x / 256 ^ n : Nat) : Int) from by norm_cast]
  constructor
  · intro h1
    have h2 : 0 < x / 256 ^ n := by omega
    exact (Nat.div_pos_iff.1 h2).2
  · intro h1
    have := Nat.div_pos h1 h
    omega

def leGood (x : Nat) (n : Int) : Bool := decide (1 ≤ n) && decide (n ≤ 8) && decide (x < 256 ^ n.toNat)
def leS (x : Nat) (n : Int) : ByteArray := if leGood x n then strOfNums (bytesTo x n.toNat) else ⟨#[]⟩
def leE (x : Nat) (n : Int) : Int := if leGood x n then 0 else 100
theorem le_yes {x : Nat} {n : Int} (h : leGood x n = true) : leS x n = strOfNums (bytesTo x n.toNat) ∧ leE x n = 0 := by simp [leS, leE, h]
theorem le_no {x : Nat} {n : Int} (h : leGood x n = false) : leS x n = ⟨#[]⟩ ∧ leE x n = 100 := by simp [leS, leE, h]
theorem leGood_iff (x : Nat) (n : Int) : leGood x n = true ↔ 1 ≤ n ∧ n ≤ 8 ∧ x < 256 ^ n.toNat := by simp [leGood, and_assoc]

/-- The number of bytes, the lowest first. -/
def ofLeL : List UInt8 → Nat
  | [] => 0
  | c :: l => c.toNat + 256 * ofLeL l
theorem ofLeL_lt : ∀ l : List UInt8, ofLeL l < 256 ^ l.length
  | [] => by simp [ofLeL]
  | c :: l => by
    have ih := ofLeL_lt l
    have hc := c.toNat_lt
    simp only [ofLeL, List.length_cons, Nat.pow_succ]
    omega
theorem ofLeL_snoc : ∀ (l : List UInt8) (c : UInt8), ofLeL (l ++ [c]) = ofLeL l + c.toNat * 256 ^ l.length
  | [], c => by simp [ofLeL]
  | d :: l, c => by
    simp only [List.cons_append, ofLeL, ofLeL_snoc l c, List.length_cons, Nat.pow_succ]
    rw [Nat.mul_add, ← Nat.mul_assoc, Nat.mul_comm 256 (c.toNat), Nat.mul_assoc, Nat.mul_comm 256 (256 ^ l.length)]
    omega
theorem pow_le (k : Nat) (h : k ≤ 8) : 256 ^ k ≤ 18446744073709551616 := by
  have := Nat.pow_le_pow_right (n := 256) (by omega) h
  exact Nat.le_trans this (by decide)
theorem ofLeL_lt64 (l : List UInt8) (h : l.length ≤ 8) : ofLeL l < 18446744073709551616 := Nat.lt_of_lt_of_le (ofLeL_lt l) (pow_le _ h)

/-- A round of OfLe: the byte is laid in above what was read. -/
theorem or_step (l : List UInt8) (c : UInt8) (h : l.length < 8) :
    bits BinOp.or IntKind.u64 (ofLeL l : Nat) (IntKind.u64.wrap (IntKind.u64.wrap (c.toNat : Int) * 2 ^ (8 * l.length))) = ((ofLeL (l ++ [c]) : Nat) : Int) := by
  have hc := c.toNat_lt
  have h1 := ofLeL_lt l
  have h8 : 256 ^ (l.length + 1) ≤ 18446744073709551616 := pow_le _ (by omega)
  rw [Nat.pow_succ] at h8
  have hlt : c.toNat * 256 ^ l.length < 18446744073709551616 := by
    have : c.toNat * 256 ^ l.length ≤ 255 * 256 ^ l.length := Nat.mul_le_mul_right _ (by omega)
    omega
  have e1 : IntKind.u64.wrap (c.toNat : Int) = (c.toNat : Int) := by rw [IntKind.wrap_u64]; omega
  have e2 : ((c.toNat : Int) * 2 ^ (8 * l.length)) = ((c.toNat * 256 ^ l.length : Nat) : Int) := by
    rw [← two_pow_8]; push_cast; rfl
  rw [e1, e2, IntKind.wrap_u64, show (((c.toNat * 256 ^ l.length : Nat) : Int) % 18446744073709551616) = ((c.toNat * 256 ^ l.length : Nat) : Int) from by omega]
  rw [bits_or_u64_nat _ _ (by omega) (by omega), ofLeL_snoc]
  congr 1
  rw [Nat.or_comm, Nat.mul_comm, ← two_pow_8, Nat.add_comm, ← Nat.two_pow_add_eq_or_of_lt (by rw [two_pow_8]; exact h1)]

/-- A round of the other one: the next lower byte is added. -/
theorem mul_step (l : List UInt8) (c : UInt8) (h : l.length < 8) :
    IntKind.u64.wrap (IntKind.u64.wrap ((ofLeL l : Nat) * 256) + IntKind.u64.wrap (c.toNat : Int)) = ((ofLeL (c :: l) : Nat) : Int) := by
  have hc := c.toNat_lt
  have h1 := ofLeL_lt64 (c :: l) (by simp; omega)
  simp only [IntKind.wrap_u64, ofLeL] at *
  omega

/-! Decimal digits -/
def digit (x : Nat) : UInt8 := UInt8.ofNat (48 + x % 10)
theorem digit_nat (x : Nat) : (digit x).toNat = 48 + x % 10 := by
  simp [digit]; omega
def decF : Nat → Nat → List UInt8
  | 0, x => [digit x]
  | f + 1, x => if x < 10 then [digit x] else decF f (x / 10) ++ [digit x]
def decL (x : Nat) : List UInt8 := decF 19 x
def decS (x : Nat) : ByteArray := ⟨(decL x).toArray⟩
/-- The lowest j digits. -/
def digsTo (x : Nat) : Nat → List UInt8
  | 0 => []
  | j + 1 => digit (x / 10 ^ j) :: digsTo x j
theorem digsTo_len (x j : Nat) : (digsTo x j).length = j := by
  induction j with
  | zero => rfl
  | succ j ih => simp [digsTo, ih]
theorem digsTo_snoc (x j : Nat) : digsTo x (j + 1) = digsTo (x / 10) j ++ [digit x] := by
  induction j with
  | zero => simp [digsTo]
  | succ j ih =>
    rw [digsTo, ih, digsTo]
    rw [Nat.pow_succ, Nat.mul_comm, ← Nat.div_div_eq_div_mul]
    rfl
theorem decF_digs (f x j : Nat) (h : x / 10 ^ (j + 1) = 0) (h2 : j = 0 ∨ x / 10 ^ j ≠ 0) (hf : j ≤ f) : decF f x = digsTo x (j + 1) := by
  induction f generalizing x j with
  | zero =>
    have : j = 0 := by omega
    subst this
    simp [decF, digsTo]
  | succ f ih =>
    cases j with
    | zero =>
      have hx : x < 10 := by
        have := Nat.div_eq_zero_iff.1 h
        omega
      simp [decF, hx, digsTo]
    | succ j =>
      have hx : ¬ x < 10 := by
        intro hx
        rcases h2 with h2 | h2
        · omega
        · apply h2
          apply Nat.div_eq_of_lt
          have : 10 ^ 1 ≤ 10 ^ (j + 1) := Nat.pow_le_pow_right (by omega) (by omega)
          omega
      rw [decF, if_neg hx, digsTo_snoc]
      rw [ih (x / 10) j (by rw [Nat.div_div_eq_div_mul, ← Nat.pow_succ', h]) (by
        rcases h2 with h2 | h2
        · omega
        · right; rw [Nat.div_div_eq_div_mul, ← Nat.pow_succ']; exact h2) (by omega)]
theorem decL_digs (x j : Nat) (h : x / 10 ^ (j + 1) = 0) (h2 : j = 0 ∨ x / 10 ^ j ≠ 0) (hj : j ≤ 19) : decL x = digsTo x (j + 1) := decF_digs 19 x j h h2 hj
theorem decF_more (f x : Nat) (h : x < 10 ^ (f + 1)) : decF (f + 1) x = decF f x := by
  induction f generalizing x with
  | zero => simp at h; simp [decF, h]
  | succ f ih =>
    rw [decF]
    by_cases hx : x < 10
    · simp [decF, hx]
    · rw [if_neg hx, ih (x / 10) (by rw [Nat.pow_succ] at h; omega), decF, if_neg hx]
theorem decF_rec (f x : Nat) (hx : ¬ x < 10) (h : x < 10 ^ (f + 1)) : decF f x = decF f (x / 10) ++ [digit x] := by
  rw [← decF_more f x h, decF, if_neg hx]

/-- What OfDec reads, digit by digit. -/
def ofDecF : List UInt8 → Nat → Option Nat
  | [], x => some x
  | c :: l, x => if c.toNat < 48 ∨ 57 < c.toNat ∨ (18446744073709551615 - (c.toNat - 48)) / 10 < x then none else ofDecF l (10 * x + (c.toNat - 48))
def ofDecBad (l : List UInt8) : Bool := decide (l.length < 1) || decide (20 < l.length) || (decide (1 < l.length) && (l.head? == some 48))
def ofDecV (l : List UInt8) : Option Nat := if ofDecBad l then none else ofDecF l 0
def ofDecX (l : List UInt8) : Nat := (ofDecV l).getD 0
def ofDecE (l : List UInt8) : Int := if (ofDecV l).isSome then 0 else 101
theorem ofDec_no {l : List UInt8} (h : ofDecV l = none) : ofDecX l = 0 ∧ ofDecE l = 101 := by simp [ofDecX, ofDecE, h]
theorem ofDec_yes {l : List UInt8} {x : Nat} (h : ofDecV l = some x) : ofDecX l = x ∧ ofDecE l = 0 := by simp [ofDecX, ofDecE, h]
theorem ofDecF_lt : ∀ (l : List UInt8) (x y : Nat), x < 18446744073709551616 → ofDecF l x = some y → y < 18446744073709551616
  | [], x, y, hx, h => by simp [ofDecF] at h; omega
  | c :: l, x, y, hx, h => by
    rw [ofDecF] at h
    split at h
    · cases h
    · exact ofDecF_lt l _ y (by omega) h
theorem ofDecF_dec (f x : Nat) (l : List UInt8) (hx : x < 18446744073709551616) (hf : x < 10 ^ (f + 1)) : ofDecF (decF f x ++ l) 0 = ofDecF l x := by
  induction f generalizing x l with
  | zero =>
    simp at hf
    have hd := digit_nat x
    simp only [decF, List.cons_append, List.nil_append, ofDecF, hd]
    rw [if_neg (by omega)]
    congr 1; omega
  | succ f ih =>
    by_cases h : x < 10
    · have hd := digit_nat x
      simp only [decF, h, if_true, List.cons_append, List.nil_append, ofDecF, hd]
      rw [if_neg (by omega)]
      congr 1; omega
    · rw [decF, if_neg h, List.append_assoc, ih (x / 10) _ (by omega) (by rw [Nat.pow_succ] at hf; omega)]
      have hd := digit_nat x
      simp only [List.cons_append, List.nil_append, ofDecF, hd]
      rw [if_neg (by omega)]
      congr 1; omega
theorem decF_len (f x : Nat) : 1 ≤ (decF f x).length ∧ (decF f x).length ≤ f + 1 := by
  induction f generalizing x with
  | zero => simp [decF]
  | succ f ih =>
    rw [decF]; split
    · simp
    · have := ih (x / 10); simp; omega
theorem decF_head (f x : Nat) (h : 1 < (decF f x).length) (hx : x < 10 ^ (f + 1)) : (decF f x).head? ≠ some 48 := by
  induction f generalizing x with
  | zero => simp [decF] at h
  | succ f ih =>
    rw [decF] at h ⊢
    split at h
    · simp at h
    · rename_i h10
      rw [if_neg h10]
      have hl := decF_len f (x / 10)
      have hxx : x / 10 < 10 ^ (f + 1) := by rw [Nat.pow_succ] at hx; omega
      rcases Nat.lt_or_ge 1 (decF f (x / 10)).length with h1 | h1
      · have := ih _ h1 hxx
        revert this h1
        generalize decF f (x / 10) = L
        intro h1 this
        cases L with
        | nil => simp at h1
        | cons a L => simpa using this
      · have hd : decF f (x / 10) = [digit (x / 10)] := by
          cases f with
          | zero => rfl
          | succ f =>
            rw [decF] at h1 ⊢
            split
            · rfl
            · rename_i h2
              rw [if_neg h2] at h1
              have := (decF_len f (x / 10 / 10)).1
              simp at h1; simp [h1] at this
        have h100 : x / 10 < 10 := by
          cases f with
          | zero => simpa using hxx
          | succ f =>
            rcases Nat.lt_or_ge (x / 10) 10 with h3 | h3
            · exact h3
            · rw [decF, if_neg (by omega)] at h1
              have := (decF_len f (x / 10 / 10)).1
              simp at h1; simp [h1] at this
        rw [hd]
        intro e
        simp at e
        have := digit_nat (x / 10)
        rw [e] at this
        have e48 : (48 : UInt8).toNat = 48 := rfl
        rw [e48] at this
        omega
theorem pow20 : (18446744073709551616 : Nat) ≤ 10 ^ 20 := by decide
theorem ofDecV_dec (x : Nat) (hx : x < 18446744073709551616) : ofDecV (decL x) = some x := by
  have hl := decF_len 19 x
  have h20 : x < 10 ^ (19 + 1) := Nat.lt_of_lt_of_le hx pow20
  have hb : ofDecBad (decL x) = false := by
    unfold ofDecBad decL
    by_cases h1 : 1 < (decF 19 x).length
    · have := decF_head 19 x h1 h20
      have h3 : ¬ (decF 19 x).length < 1 := by omega
      have h4 : ¬ 20 < (decF 19 x).length := by omega
      simp only [h3, h4, decide_false, Bool.false_or, Bool.and_eq_false_iff, beq_eq_false_iff_ne, ne_eq]
      exact Or.inr this
    · have h3 : ¬ (decF 19 x).length < 1 := by omega
      have h4 : ¬ 20 < (decF 19 x).length := by omega
      simp only [h1, h3, h4, decide_false, Bool.false_or, Bool.false_and]
  have hd := ofDecF_dec 19 x [] hx h20
  rw [List.append_nil] at hd
  simp only [ofDecV, hb]
  exact hd
theorem ofDecV_zero (x : Nat) : ofDecV (48 :: decL x) = none := by
  have hl := (decF_len 19 x).1
  have hb : ofDecBad (48 :: decL x) = true := by
    unfold ofDecBad decL
    simp; omega
  simp [ofDecV, hb]

/-- Le in eight bytes and back. -/
theorem ofLeL_bytes (x n : Nat) : ofLeL ((bytesTo x n).map fun v => UInt8.ofNat v.toNat) = x % 256 ^ n := by
  induction n with
  | zero => simp [bytesTo, ofLeL, Nat.mod_one]
  | succ n ih =>
    rw [bytesTo_succ, List.map_append, List.map_cons, List.map_nil, ofLeL_snoc, ih, List.length_map, bytesTo_len, byteAt_nat]
    have e : (UInt8.ofNat (((x / 256 ^ n % 256 : Nat) : Int)).toNat).toNat = x / 256 ^ n % 256 := by
      rw [Int.toNat_natCast]
      simp
    rw [e, Nat.pow_succ, Nat.mod_mul, Nat.mul_comm (256 ^ n)]
end Go.Proofs.Ytifhnpkapgaboaa.num
