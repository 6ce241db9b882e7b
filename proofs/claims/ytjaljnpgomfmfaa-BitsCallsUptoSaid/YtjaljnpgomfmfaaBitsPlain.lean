/-
  Proved: plain facts on the bits of a text: what turning a run of them does, how many are 0. Conditions: as each theorem says. No program is in sight.
-/
import Derived.Laws.Bits64b
import Derived.Laws.BitsLemmas
namespace Go.Proofs.Ytjaljnpgomfmfaa.bits

/-- Is bit i of a text 1? -/
def bitL (l : List UInt8) (i : Nat) : Bool := (l.getD (i / 8) 0).toNat.testBit (i % 8)
/-- Is a text a map of n bits? -/
def mayB (l : List UInt8) (n : Int) : Bool := decide (0 ≤ n) && decide (n ≤ 8 * (l.length : Int))

theorem and7 (i : Nat) (h : i < 9223372036854775808) : Go.bits BinOp.and IntKind.i64 (i : Int) 7 = ((i % 8 : Nat) : Int) := by
  have := bits_mask .i64 63 (by decide) (fun n h0 h1 => by rw [IntKind.wrap_i64]; omega) 3 (by decide) (i : Int) (by omega) (by omega)
  rw [show ((7 : Int)) = 2 ^ 3 - 1 from by decide, this]
  omega
theorem and1 (c : Nat) (h : c < 256) : Go.bits BinOp.and IntKind.u8 (c : Int) 1 = ((c % 2 : Nat) : Int) := by
  have := bits_mask .u8 8 (by decide) (fun n h0 h1 => by rw [IntKind.wrap_u8]; omega) 1 (by decide) (c : Int) (by omega) (by omega)
  rw [show ((1 : Int)) = 2 ^ 1 - 1 from by decide, this]
  omega
theorem cast_div (c j : Nat) : (c : Int) / 2 ^ j = ((c / 2 ^ j : Nat) : Int) := by
  rw [show ((2 : Int) ^ j) = ((2 ^ j : Nat) : Int) from by norm_cast, ← Int.natCast_ediv]
theorem bit_test (c : UInt8) (j : Nat) : (Go.bits BinOp.and IntKind.u8 ((c.toNat : Int) / 2 ^ j) 1 == 1) = c.toNat.testBit j := by
  have hc := c.toNat_lt
  have hd : c.toNat / 2 ^ j < 256 := Nat.lt_of_le_of_lt (Nat.div_le_self _ _) hc
  rw [cast_div, and1 _ hd, Nat.testBit_eq_decide_div_mod_eq]
  generalize c.toNat / 2 ^ j = q
  rw [Bool.eq_iff_iff]
  simp
  omega

/-- One bit turned. -/
def flip1 (l : List UInt8) (i : Nat) : List UInt8 := l.set (i / 8) (UInt8.ofNat ((l.getD (i / 8) 0).toNat ^^^ 2 ^ (i % 8)))
theorem flip1_len (l : List UInt8) (i : Nat) : (flip1 l i).length = l.length := by simp [flip1]
theorem xor_lt (c : UInt8) (j : Nat) (h : j < 8) : c.toNat ^^^ 2 ^ j < 256 := by
  have hc := c.toNat_lt
  exact Nat.xor_lt_two_pow (n := 8) hc (Nat.pow_lt_pow_right (by omega) h)
theorem flip1_get (l : List UInt8) (i j : Nat) (h : i / 8 < l.length) : ((flip1 l i).getD j 0).toNat = if j = i / 8 then (l.getD j 0).toNat ^^^ 2 ^ (i % 8) else (l.getD j 0).toNat := by
  unfold flip1
  simp only [List.getD_eq_getElem?_getD, List.getElem?_set]
  by_cases e : j = i / 8
  · subst e
    simp only [if_true, h, Option.getD_some]
    have := xor_lt (l[i / 8]?.getD 0) (i % 8) (by omega)
    exact UInt8.toNat_ofNat_of_lt' this
  · rw [if_neg (by omega), if_neg e]
theorem bit_flip1 (l : List UInt8) (i j : Nat) (h : i / 8 < l.length) : bitL (flip1 l i) j = if j = i then !bitL l j else bitL l j := by
  unfold bitL
  rw [flip1_get l i (j / 8) h]
  by_cases e : j = i
  · subst e
    rw [if_pos rfl, if_pos rfl, Nat.testBit_xor, Nat.testBit_two_pow_self]
    simp
  · rw [if_neg e]
    split
    · rename_i e2
      rw [Nat.testBit_xor, Nat.testBit_two_pow_of_ne (by omega)]
      simp
    · rfl
/-- k bits turned, from f on. -/
def flips (l : List UInt8) (f : Nat) : Nat → List UInt8
  | 0 => l
  | k + 1 => flip1 (flips l f k) (f + k)
theorem flips_len (l : List UInt8) (f k : Nat) : (flips l f k).length = l.length := by
  induction k with
  | zero => rfl
  | succ k ih => rw [flips, flip1_len, ih]
theorem bit_flips (l : List UInt8) (f k j : Nat) (h : f + k ≤ 8 * l.length) : bitL (flips l f k) j = if f ≤ j ∧ j < f + k then !bitL l j else bitL l j := by
  induction k with
  | zero => rw [if_neg (by omega)]; rfl
  | succ k ih =>
    rw [flips, bit_flip1 _ _ _ (by rw [flips_len]; omega), ih (by omega)]
    by_cases e : j = f + k
    · subst e
      rw [if_pos rfl, if_neg (by omega), if_pos (by omega)]
    · rw [if_neg e]
      by_cases h2 : f ≤ j ∧ j < f + k
      · rw [if_pos h2, if_pos (by omega)]
      · rw [if_neg h2, if_neg (by omega)]
/-- Texts of one length with the same bits are the same. -/
theorem bits_ext (a b : List UInt8) (hl : a.length = b.length) (h : ∀ i, bitL a i = bitL b i) : a = b := by
  apply List.ext_getElem hl
  intro j h1 h2
  apply UInt8.toNat_inj.1
  apply Nat.eq_of_testBit_eq
  intro i
  rcases Nat.lt_or_ge i 8 with hi | hi
  · have := h (8 * j + i)
    unfold bitL at this
    rw [show (8 * j + i) / 8 = j from by omega, show (8 * j + i) % 8 = i from by omega] at this
    simpa [List.getD_eq_getElem?_getD, h1, h2] using this
  · have e : ∀ c : UInt8, c.toNat.testBit i = false := fun c =>
      Nat.testBit_lt_two_pow (Nat.lt_of_lt_of_le c.toNat_lt (Nat.pow_le_pow_right (by omega) hi))
    rw [e, e]
theorem flips_back (l : List UInt8) (f k : Nat) (h : f + k ≤ 8 * l.length) : flips (flips l f k) f k = l := by
  apply bits_ext _ _ (by rw [flips_len, flips_len])
  intro i
  rw [bit_flips _ _ _ _ (by rw [flips_len]; exact h), bit_flips _ _ _ _ h]
  by_cases h2 : f ≤ i ∧ i < f + k
  · simp [h2]
  · simp only [h2, if_false]

/-- How many of the first k bits are 0. -/
def freeTo (l : List UInt8) : Nat → Nat
  | 0 => 0
  | k + 1 => freeTo l k + if bitL l k then 0 else 1
theorem freeTo_le (l : List UInt8) (k : Nat) : freeTo l k ≤ k := by
  induction k with
  | zero => exact Nat.le_refl _
  | succ k ih => rw [freeTo]; split <;> omega
theorem freeTo_zero (l : List UInt8) (k : Nat) : freeTo l k = 0 ↔ ∀ j, j < k → bitL l j = true := by
  induction k with
  | zero => simp [freeTo]
  | succ k ih =>
    rw [freeTo]
    constructor
    · intro h j hj
      rcases Nat.lt_or_ge j k with h1 | h1
      · exact ih.1 (by omega) j h1
      · obtain rfl : j = k := by omega
        cases hb : bitL l j with
        | true => rfl
        | false => simp [hb] at h
    · intro h
      rw [ih.2 (fun j hj => h j (by omega)), h k (by omega)]; rfl
/-- A run of k bits 0 marked: k fewer are 0. -/
theorem freeTo_flips (l : List UInt8) (f k n : Nat) (h : f + k ≤ 8 * l.length) (hall : ∀ j, f ≤ j → j < f + k → bitL l j = false) :
    freeTo (flips l f k) n + (min n (f + k) - f) = freeTo l n := by
  induction n with
  | zero => simp [freeTo]
  | succ n ih =>
    rw [freeTo, freeTo, bit_flips _ _ _ _ h]
    by_cases h2 : f ≤ n ∧ n < f + k
    · rw [if_pos h2, hall n h2.1 h2.2]
      have : min (n + 1) (f + k) - f = min n (f + k) - f + 1 := by omega
      simp; omega
    · rw [if_neg h2]
      have : min (n + 1) (f + k) - f = min n (f + k) - f := by omega
      omega

/-- k is how far a run of bits 0 goes from f on, up to n, and up to so many as are wanted. -/
def IsRun (l : List UInt8) (n f : Nat) (want : Int) (k : Nat) : Prop :=
  (∀ j, j < k → bitL l (f + j) = false) ∧ (k : Int) ≤ want ∧ f + k ≤ n ∧ ((k : Int) = want ∨ f + k = n ∨ bitL l (f + k) = true)
theorem IsRun.unique {l : List UInt8} {n f : Nat} {want : Int} {k k' : Nat} (h : IsRun l n f want k) (h' : IsRun l n f want k') : k = k' := by
  obtain ⟨a1, a2, a3, a4⟩ := h
  obtain ⟨b1, b2, b3, b4⟩ := h'
  rcases Nat.lt_trichotomy k k' with hlt | he | hlt
  · exfalso
    rcases a4 with h | h | h
    · omega
    · omega
    · rw [b1 k hlt] at h; cases h
  · exact he
  · exfalso
    rcases b4 with h | h | h
    · omega
    · omega
    · rw [a1 k' hlt] at h; cases h
/-- f is the first bit 0 below n. -/
def IsFirst (l : List UInt8) (n f : Nat) : Prop := f < n ∧ bitL l f = false ∧ ∀ j, j < f → bitL l j = true
theorem IsFirst.unique {l : List UInt8} {n f f' : Nat} (h : IsFirst l n f) (h' : IsFirst l n f') : f = f' := by
  rcases Nat.lt_trichotomy f f' with hlt | he | hlt
  · have := h'.2.2 f hlt; rw [h.2.1] at this; cases this
  · exact he
  · have := h.2.2 f' hlt; rw [h'.2.1] at this; cases this
/-- What Find answers. -/
def FindIs (l : List UInt8) (n want : Int) (f k : Nat) (c : Int) : Prop :=
  ((mayB l n = false ∨ want < 1) ∧ f = 0 ∧ k = 0 ∧ c = 900) ∨
  (mayB l n = true ∧ 1 ≤ want ∧ (∀ j, j < n.toNat → bitL l j = true) ∧ f = 0 ∧ k = 0 ∧ c = 901) ∨
  (mayB l n = true ∧ 1 ≤ want ∧ IsFirst l n.toNat f ∧ IsRun l n.toNat f want k ∧ c = 0)
theorem FindIs.unique {l : List UInt8} {n want : Int} {f k f' k' : Nat} {c c' : Int} (h : FindIs l n want f k c) (h' : FindIs l n want f' k' c') : f = f' ∧ k = k' ∧ c = c' := by
  rcases h with ⟨h1, h2, h3, h4⟩ | ⟨h1, h2, h3, h4, h5, h6⟩ | ⟨h1, h2, h3, h4, h5⟩ <;>
  rcases h' with ⟨g1, g2, g3, g4⟩ | ⟨g1, g2, g3, g4, g5, g6⟩ | ⟨g1, g2, g3, g4, g5⟩
  · exact ⟨by omega, by omega, by omega⟩
  · rcases h1 with h1 | h1
    · rw [g1] at h1; cases h1
    · omega
  · rcases h1 with h1 | h1
    · rw [g1] at h1; cases h1
    · omega
  · rcases g1 with g1 | g1
    · rw [h1] at g1; cases g1
    · omega
  · exact ⟨by omega, by omega, by omega⟩
  · have := h3 f' g3.1; rw [g3.2.1] at this; cases this
  · rcases g1 with g1 | g1
    · rw [h1] at g1; cases g1
    · omega
  · have := g3 f h3.1; rw [h3.2.1] at this; cases this
  · have e := h3.unique g3
    subst e
    exact ⟨rfl, h4.unique g4, by omega⟩

/-- What Mark and Clear answer: a text, an error. -/
def turnBad (l : List UInt8) (n f k : Int) : Bool := !mayB l n || decide (k < 1) || decide (f < 0) || decide (n < f) || decide (n - f < k)
def allAre (l : List UInt8) (f : Nat) (was : Bool) : Nat → Bool
  | 0 => true
  | k + 1 => allAre l f was k && (bitL l (f + k) == was)
def turnS (l : List UInt8) (n f k : Int) (was : Bool) : List UInt8 := if turnBad l n f k then [] else if allAre l f.toNat was k.toNat then flips l f.toNat k.toNat else []
def turnE (l : List UInt8) (n f k : Int) (was : Bool) : Int := if turnBad l n f k then 900 else if allAre l f.toNat was k.toNat then 0 else 902
theorem allAre_iff (l : List UInt8) (f : Nat) (was : Bool) (k : Nat) : allAre l f was k = true ↔ ∀ j, j < k → bitL l (f + j) = was := by
  induction k with
  | zero => simp [allAre]
  | succ k ih =>
    rw [allAre, Bool.and_eq_true, ih, beq_iff_eq]
    constructor
    · intro h j hj
      rcases Nat.lt_or_ge j k with h1 | h1
      · exact h.1 j h1
      · obtain rfl : j = k := by omega
        exact h.2
    · intro h
      exact ⟨fun j hj => h j (by omega), h k (by omega)⟩
theorem allAre_no {l : List UInt8} {f : Nat} {was : Bool} {k j : Nat} (hj : j < k) (h : bitL l (f + j) ≠ was) : allAre l f was k = false := by
  cases hc : allAre l f was k with
  | false => rfl
  | true => exact absurd ((allAre_iff l f was k).1 hc j hj) h
end Go.Proofs.Ytjaljnpgomfmfaa.bits
