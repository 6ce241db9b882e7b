/-
  Proved: what the Go functions bits.Mark and bits.Clear return for every argument. Conditions: a text has at most 2^60 - 1 bytes, a number fits its kind.
-/
import Derived.Test.YtjaljnpgomfmfaaBits
import Derived.Test.YtjaljnpgomfmfaaBytes
import Derived.RegionTactic
namespace Go.Proofs.Ytjaljnpgomfmfaa.bits
open Go.RowKit
open num (list_len ret_str)
open row (RowIs byteV)
set_option linter.unusedVariables false

def S (l : List UInt8) : ByteArray := ⟨l.toArray⟩
theorem turn_bad {l : List UInt8} {n f k : Int} (was : Bool) (h : turnBad l n f k = true) : turnS l n f k was = [] ∧ turnE l n f k was = 900 := by simp [turnS, turnE, h]
def extV (f k : Int) : Value := .agg #[.int .i64 f, .int .i64 k]
def TurnPost (l : List UInt8) (n f k : Int) (was : Bool) (w : World) (e : Ending) (w' : World) : Prop :=
  e = .returned (.tuple #[.string (S (turnS l n f k was)), .int .i64 (turnE l n f k was)]) ∧ Below w.heap.size w w'

set_option maxRecDepth 100000 in
theorem turned_bad (s : ByteArray) (n f k : Int) (was : Bool) (w : World) (hs : s.size ≤ 1152921504606846975) (hn1 : n ≤ 9223372036854775807) (hf1 : f ≤ 9223372036854775807)
    (h : turnBad (L s) n f k = true) :
    Calls Try.prog 73 #[.string s, .int .i64 n, .agg #[.int .i64 f, .int .i64 k], .bool was] w (TurnPost (L s) n f k was w) := by
  have HM := Lib.hid (may_any s n · (by omega) hn1)
  have HE := Lib.hid (turn_bad was h)
  cases hm : mayB (L s) n with
  | false =>
    rw [hm] at HM
    clear h hm
    go_enter Try.func73, Try.ntmps73
    go_wp2_with fail
    (with_reducible refine (HM.out _).mono ?_); rintro e w' ⟨rfl, rfl⟩
    go_wp2
    go_ret2
    exact ⟨by rw [HE.out.1, HE.out.2]; rfl, (Below.refl _ _).alloc (Nat.le_refl _) _⟩
  | true =>
    rw [hm] at HM
    have hb := mayB_le hm
    have hbad : k < 1 ∨ (1 ≤ k ∧ f < 0) ∨ (1 ≤ k ∧ 0 ≤ f ∧ n < f) ∨ (1 ≤ k ∧ 0 ≤ f ∧ f ≤ n ∧ n - f < k) := by
      simp only [turnBad, hm, Bool.or_eq_true, decide_eq_true_eq] at h
      simp at h
      omega
    clear h hm
    rcases hbad with h1 | ⟨h1, h2⟩ | ⟨h1, h2, h3⟩ | ⟨h1, h2, h3, h4⟩
    · have d1 : decide (k < 1) = true := by simp; omega
      go_enter Try.func73, Try.ntmps73
      go_wp2_with fail
      (with_reducible refine (HM.out _).mono ?_); rintro e w' ⟨rfl, rfl⟩
      go_wp2
      go_ret2
      exact ⟨by rw [HE.out.1, HE.out.2]; rfl, (Below.refl _ _).alloc (Nat.le_refl _) _⟩
    · have d1 : decide (k < 1) = false := by simp; omega
      have d2 : decide (f < 0) = true := by simp; omega
      go_enter Try.func73, Try.ntmps73
      go_wp2_with fail
      (with_reducible refine (HM.out _).mono ?_); rintro e w' ⟨rfl, rfl⟩
      go_wp2
      go_ret2
      exact ⟨by rw [HE.out.1, HE.out.2]; rfl, (Below.refl _ _).alloc (Nat.le_refl _) _⟩
    · have d1 : decide (k < 1) = false := by simp; omega
      have d2 : decide (f < 0) = false := by simp; omega
      have d3 : decide (n < f) = true := by simp; omega
      go_enter Try.func73, Try.ntmps73
      go_wp2_with fail
      (with_reducible refine (HM.out _).mono ?_); rintro e w' ⟨rfl, rfl⟩
      go_wp2
      go_ret2
      exact ⟨by rw [HE.out.1, HE.out.2]; rfl, (Below.refl _ _).alloc (Nat.le_refl _) _⟩
    · have d1 : decide (k < 1) = false := by simp; omega
      have d2 : decide (f < 0) = false := by simp; omega
      have d3 : decide (n < f) = false := by simp; omega
      have d4 : decide (n - f < k) = true := by simp; omega
      go_enter Try.func73, Try.ntmps73
      go_wp2_with fail
      (with_reducible refine (HM.out _).mono ?_); rintro e w' ⟨rfl, rfl⟩
      go_wp2
      go_ret2
      exact ⟨by rw [HE.out.1, HE.out.2]; rfl, (Below.refl _ _).alloc (Nat.le_refl _) _⟩

theorem bits_xor_u8_nat (a b : Nat) (ha : a < 256) (hb : b < 256) : Go.bits BinOp.xor IntKind.u8 (a : Int) (b : Int) = ((a ^^^ b : Nat) : Int) := by
  have hx : a ^^^ b < 2 ^ 8 := Nat.xor_lt_two_pow (by omega) (by omega)
  have h1 : (BitVec.ofInt 8 (a : Int)).toNat = a := by
    rw [BitVec.ofInt_natCast, BitVec.toNat_ofNat]; exact Nat.mod_eq_of_lt (by omega)
  have h2 : (BitVec.ofInt 8 (b : Int)).toNat = b := by
    rw [BitVec.ofInt_natCast, BitVec.toNat_ofNat]; exact Nat.mod_eq_of_lt (by omega)
  show IntKind.u8.wrap ((BitVec.ofInt 8 (a : Int) ^^^ BitVec.ofInt 8 (b : Int)).toNat : Int) = _
  rw [BitVec.toNat_xor, h1, h2, IntKind.wrap_u8]
  omega
theorem xor_byte (c : UInt8) (j : Nat) (h : j < 8) : Value.int .u8 (Go.bits BinOp.xor IntKind.u8 (c.toNat : Int) (2 ^ j % 256)) = byteV (UInt8.ofNat (c.toNat ^^^ 2 ^ j)) := by
  have hp : 2 ^ j < 256 := Nat.pow_lt_pow_right (n := 8) (by omega) h
  have hc := c.toNat_lt
  have e : ((2 : Int) ^ j % 256) = ((2 ^ j : Nat) : Int) := by
    rw [show ((2 : Int) ^ j) = ((2 ^ j : Nat) : Int) from by norm_cast]
    generalize 2 ^ j = q at *
    omega
  have hx := xor_lt c j h
  rw [e, bits_xor_u8_nat _ _ hc hp]
  unfold byteV
  rw [UInt8.toNat_ofNat_of_lt' hx]
set_option maxRecDepth 100000 in
set_option maxHeartbeats 800000 in
theorem turned_good (s : ByteArray) (n f k : Nat) (was : Bool) (w : World) (hs : s.size ≤ 1152921504606846975) (hn : n ≤ 8 * s.size) (hk : 1 ≤ k) (hfk : f + k ≤ n) :
    Calls Try.prog 73 #[.string s, .int .i64 n, .agg #[.int .i64 f, .int .i64 k], .bool was] w (TurnPost (L s) n f k was w) := by
  have hm : mayB (L s) n = true := by
    unfold mayB; rw [show (L s).length = s.size from list_len s]; simp; omega
  have HM := Lib.hid (may_any s n · (by omega) (by omega))
  rw [hm] at HM
  have hnb : turnBad (L s) n f k = false := by
    simp [turnBad, hm]; omega
  have HYES : Hid (allAre (L s) f was k = true → turnS (L s) n f k was = flips (L s) f k ∧ turnE (L s) n f k was = 0) := fun h => by simp [turnS, turnE, hnb, h]
  have HNO : Hid (allAre (L s) f was k = false → turnS (L s) n f k was = [] ∧ turnE (L s) n f k was = 902) := fun h => by simp [turnS, turnE, hnb, h]
  clear hm hnb
  have d1 : decide ((k : Int) < 1) = false := by simp; omega
  have d2 : decide ((f : Int) < 0) = false := by simp
  have d3 : decide ((n : Int) < f) = false := by simp; omega
  have d3' : decide (n < f) = false := by simp; omega
  have d4 : decide ((n : Int) - f < k) = false := by simp; omega
  obtain ⟨cap, w2, hcv, hcap, hrow, hbel⟩ := row.of_string (w.alloc (.cells #[.int .i64 f, .int .i64 k] 41)) s
  have HROW := Lib.hid hrow; have HBEL := Lib.hid hbel; clear hrow hbel
  have e1 : (w.alloc (.cells #[.int .i64 f, .int .i64 k] 41)).heap.size = w.heap.size + 1 := by simp
  rw [e1] at hcv HROW HBEL
  have hc0 : w2.cell? ⟨w.heap.size, 0, none⟩ = some (.int .i64 f) := by rw [HBEL.out.cell (by simp)]; simp
  have hc1 : w2.cell? ⟨w.heap.size, 1, none⟩ = some (.int .i64 k) := by rw [HBEL.out.cell (by simp)]; simp
  clear e1
  go_enter Try.func73, Try.ntmps73
  go_wp2_with fail
  (with_reducible refine (HM.out _).mono ?_); rintro e w' ⟨rfl, rfl⟩
  go_wp2_with fail
  go_loopw [11] (fun i wr => ∃ j : Nat, j ≤ k ∧ i = .int .i64 ((f : Int) + j) ∧ RowIs wr (w.heap.size + 1) (flips (L s) f j) ∧ Below (w.heap.size + 1) w2 wr ∧ Hid (allAre (L s) f was j = true)) (fun i _ => f + k - (intOf i).toNat)
  case atStart => exact ⟨0, Nat.zero_le _, by simp, HROW.out, Below.refl _ _, rfl⟩
  case round =>
    obtain ⟨j, hj, rfl, hrow, hbel, HALL⟩ := hrel
    have hc0r : wr.cell? ⟨w.heap.size, 0, none⟩ = some (.int .i64 f) := by rw [hbel.cell (by simp), hc0]
    have hc1r : wr.cell? ⟨w.heap.size, 1, none⟩ = some (.int .i64 k) := by rw [hbel.cell (by simp), hc1]
    have HB2 : Hid (Below w.heap.size w wr) := by
      refine Below.trans ((Below.refl w.heap.size w).alloc (Nat.le_refl _) (.cells #[.int .i64 f, .int .i64 k] 41)) (Below.trans (HBEL.out.mono (by omega)) (hbel.mono (by omega)))
    by_cases hlt : j < k
    · have HC2 : Hid (∀ x : World, Calls Try.prog 72 #[.string s, .int .i64 ((f : Int) + j)] x fun e w' => e = .returned (.bool (bitL (L s) (f + j))) ∧ x = w') := fun x => by
        have := bit_any s (f + j) x (by omega) (by omega) (by omega)
        rw [show (((f + j : Nat)) : Int) = (f : Int) + j from by omega] at this
        exact this
      by_cases hbit : bitL (L s) (f + j) = was
      · have hlen : (flips (L s) f j).length = s.size := by rw [flips_len, list_len]
        have hi8 : (f + j) / 8 < s.size := by omega
        have hcell := hrow.cell ((f + j) / 8) (by omega)
        have hfree := hrow.free ((f + j) / 8) (by omega)
        generalize hcc : (flips (L s) f j).getD ((f + j) / 8) 0 = c at *
        have hand := and7 (f + j) (by omega)
        rw [show (((f + j : Nat)) : Int) = (f : Int) + j from by omega] at hand
        have HR := Lib.hid (hrow.set ((f + j) / 8) (UInt8.ofNat (c.toNat ^^^ 2 ^ ((f + j) % 8))))
        have HALL2 : Hid (allAre (L s) f was (j + 1) = true) := by rw [Hid, allAre, HALL.out, hbit]; simp
        rw [hbit] at HC2
        unfold byteV at hcell
        have h7 : (f + j) % 8 < 8 := by omega
        have HCC := Lib.hid hcc; have HLEN := Lib.hid hlen
        clear hcc hlen hbit hrow hc0 hc1 hcv
        go_wp2_with (go_at_call 72; refine (HC2.out _).mono ?_; rintro e w' ⟨rfl, rfl⟩)
        have HX := Lib.hid (xor_byte c ((f + j) % 8) h7)
        go_region
        go_wp2
        rw [HX.out]
        go_roundw
        case rel => exact ⟨j + 1, by omega, by go_num, by
            have h := HR.out
            rw [flips, flip1, HCC.out]; exact h, ((hbel.setCell (by simp) _).drew), HALL2.out⟩
        case measure => simp [intOf]; omega
      · have HNO2 := Lib.hid (HNO.out (allAre_no hlt hbit))
        have hbit2 : bitL (L s) (f + j) = !was := by
          cases h1 : bitL (L s) (f + j) <;> cases was <;> simp_all
        rw [hbit2] at HC2
        clear hbit hbit2 hrow hc0 hc1 hcv
        cases was <;>
        · go_wp2_with (go_at_call 72; refine (HC2.out _).mono ?_; rintro e w' ⟨rfl, rfl⟩)
          go_ret2
          exact ⟨by rw [HNO2.out.1, HNO2.out.2]; rfl, HB2.out⟩
    · obtain rfl : j = k := by omega
      have HY2 := Lib.hid (HYES.out HALL.out)
      have hcv2 := hrow.conv cap
      rw [flips_len, list_len] at hcv2
      clear hrow hc0 hc1 hcv
      go_wp2
      go_ret2
      exact ⟨by rw [HY2.out.1, HY2.out.2]; rfl, HB2.out⟩

theorem turned_any (s : ByteArray) (n f k : Int) (was : Bool) (w : World) (hs : s.size ≤ 1152921504606846975) (hn1 : n ≤ 9223372036854775807) (hf1 : f ≤ 9223372036854775807) :
    Calls Try.prog 73 #[.string s, .int .i64 n, .agg #[.int .i64 f, .int .i64 k], .bool was] w (TurnPost (L s) n f k was w) := by
  cases h : turnBad (L s) n f k with
  | true => exact turned_bad s n f k was w hs hn1 hf1 h
  | false =>
    simp only [turnBad, Bool.or_eq_false_iff, decide_eq_false_iff_not] at h
    obtain ⟨⟨⟨⟨hm, h1⟩, h2⟩, h3⟩, h4⟩ := h
    have hb := mayB_le (by simpa using hm)
    obtain ⟨n', rfl⟩ := Int.eq_ofNat_of_zero_le hb.1
    obtain ⟨f', rfl⟩ := Int.eq_ofNat_of_zero_le (show 0 ≤ f by omega)
    obtain ⟨k', rfl⟩ := Int.eq_ofNat_of_zero_le (show 0 ≤ k by omega)
    exact turned_good s n' f' k' was w hs (by omega) (by omega) (by omega)

theorem Mark_any (s : ByteArray) (n f k : Int) (w : World) (hs : s.size ≤ 1152921504606846975) (hn1 : n ≤ 9223372036854775807) (hf1 : f ≤ 9223372036854775807) :
    Calls Try.prog 45 #[.string s, .int .i64 n, .agg #[.int .i64 f, .int .i64 k]] w (TurnPost (L s) n f k false w) := by
  have H := Lib.hid (turned_any s n f k false · hs hn1 hf1)
  go_enter Try.func45, Try.ntmps45
  go_wp2_with fail
  (with_reducible refine (H.out _).mono ?_); rintro e w' ⟨rfl, hb⟩
  go_wp2
  go_ret2
  exact ⟨rfl, ((Below.refl _ _).alloc (Nat.le_refl _) _).trans (hb.mono (by simp))⟩
theorem Clear_any (s : ByteArray) (n f k : Int) (w : World) (hs : s.size ≤ 1152921504606846975) (hn1 : n ≤ 9223372036854775807) (hf1 : f ≤ 9223372036854775807) :
    Calls Try.prog 46 #[.string s, .int .i64 n, .agg #[.int .i64 f, .int .i64 k]] w (TurnPost (L s) n f k true w) := by
  have H := Lib.hid (turned_any s n f k true · hs hn1 hf1)
  go_enter Try.func46, Try.ntmps46
  go_wp2_with fail
  (with_reducible refine (H.out _).mono ?_); rintro e w' ⟨rfl, hb⟩
  go_wp2
  go_ret2
  exact ⟨rfl, ((Below.refl _ _).alloc (Nat.le_refl _) _).trans (hb.mono (by simp))⟩
end Go.Proofs.Ytjaljnpgomfmfaa.bits
