/-
  Proved: what parts, sized and Text return, in the code and in the document's answer. Conditions: as each theorem says.
-/
import Derived.Test.YtjanpaallealgaaDoorFlt2
import Derived.Test.YtjanpaallealgaaDoorNum2F
namespace Go.Proofs.YtjanpaallealgaaDoor.flt
open Go.RowKit Ieee
open num (U64 decS decL Dec_any ret_str ret_pair)
set_option linter.unusedVariables false
set_option maxRecDepth 100000

/-- An even number halved until it is odd, and how often. -/
def strip : Nat → Nat → Nat × Nat
  | 0, m => (m, 0)
  | f + 1, m => if m % 2 = 0 then ((strip f (m / 2)).1, (strip f (m / 2)).2 + 1) else (m, 0)
theorem bits_and (a : Nat) (h : a < 18446744073709551616) (k : Nat) (hk : k < 64) : bits .and .u64 (a : Int) ((2 ^ k - 1 : Nat) : Int) = (a % 2 ^ k : Nat) := by
  have h2 : 2 ^ k ≤ 2 ^ 63 := Nat.pow_le_pow_right (by omega) (by omega)
  have h3 : 2 ^ k - 1 < 18446744073709551616 := by omega
  have e : (BitVec.ofInt 64 (a : Int) &&& BitVec.ofInt 64 ((2 ^ k - 1 : Nat) : Int)).toNat = a % 2 ^ k := by
    rw [BitVec.toNat_and, BitVec.ofInt_natCast, BitVec.toNat_ofNat, Nat.mod_eq_of_lt h, BitVec.ofInt_natCast, BitVec.toNat_ofNat, Nat.mod_eq_of_lt h3]
    exact Nat.and_two_pow_sub_one_eq_mod a k
  show IntKind.u64.wrap (((BitVec.ofInt 64 (a : Int) &&& BitVec.ofInt 64 ((2 ^ k - 1 : Nat) : Int)).toNat : Nat) : Int) = _
  rw [e, IntKind.wrap_u64]
  have : a % 2 ^ k ≤ a := Nat.mod_le _ _
  omega
theorem and52 (a : Nat) (h : a < 18446744073709551616) : bits .and .u64 (a : Int) 4503599627370495 = (a % 4503599627370496 : Nat) := bits_and a h 52 (by omega)
theorem and11 (a : Nat) (h : a < 18446744073709551616) : bits .and .u64 (a : Int) 2047 = (a % 2048 : Nat) := bits_and a h 11 (by omega)
theorem and1 (a : Nat) (h : a < 18446744073709551616) : bits .and .u64 (a : Int) 1 = (a % 2 : Nat) := bits_and a h 1 (by omega)
theorem or52 (a : Nat) (h : a < 4503599627370496) : bits .or .u64 (a : Int) 4503599627370496 = (4503599627370496 + a : Nat) := by
  have e : (BitVec.ofInt 64 (a : Int) ||| BitVec.ofInt 64 4503599627370496).toNat = 4503599627370496 + a := by
    rw [BitVec.toNat_or, BitVec.ofInt_natCast, BitVec.toNat_ofNat, Nat.mod_eq_of_lt (by omega)]
    show a ||| 2 ^ 52 = 2 ^ 52 + a
    rw [Nat.or_comm]
    exact (Nat.two_pow_add_eq_or_of_lt (i := 52) (by omega) 1 ▸ by simp)
  show IntKind.u64.wrap (((BitVec.ofInt 64 (a : Int) ||| BitVec.ofInt 64 4503599627370496).toNat : Nat) : Int) = _
  rw [e, IntKind.wrap_u64]
  omega
attribute [local go_sem] fmt64 run_bits run_frombits
theorem strip_even (f m : Nat) (h : m % 2 = 0) : strip (f + 1) m = ((strip f (m / 2)).1, (strip f (m / 2)).2 + 1) := by rw [strip, if_pos h]
theorem strip_odd (f m : Nat) (h : m % 2 = 1) : strip f m = (m, 0) := by
  cases f with
  | zero => rfl
  | succ f => rw [strip, if_neg (by omega)]
theorem half_lt (f m : Nat) (h : m < 2 ^ (f + 1)) : m / 2 < 2 ^ f := by rw [Nat.pow_succ] at h; omega
def StripAt (s m f k : Nat) : Prop := m < 2 ^ f ∧ 0 < m ∧ k ≤ 64 ∧ k + f = 64 ∧ strip 64 s = ((strip f m).1, (strip f m).2 + k) ∧ m < 18446744073709551616
theorem StripAt.start {s : Nat} (h0 : 0 < s) (h : s < 18446744073709551616) : StripAt s s 64 0 := ⟨h, h0, by omega, by omega, rfl, h⟩
theorem StripAt.step {s m f k : Nat} (h : StripAt s m f k) (he : m % 2 = 0) : ∃ f', StripAt s (m / 2) f' (k + 1) := by
  obtain ⟨h1, h2, h3, h4, h5, h6⟩ := h
  cases f with
  | zero => simp at h1; omega
  | succ f =>
    refine ⟨f, half_lt f m h1, by omega, by omega, by omega, ?_, by omega⟩
    rw [h5, strip_even f m he]
    simp only [Prod.mk.injEq, true_and]
    omega
theorem StripAt.stop {s m f k : Nat} (h : StripAt s m f k) (he : m % 2 = 1) : (strip 64 s).1 = m ∧ (strip 64 s).2 = k := by
  obtain ⟨h1, h2, h3, h4, h5, h6⟩ := h
  rw [h5, strip_odd f m he]
  exact ⟨rfl, by simp⟩
theorem sg_zero (a : Nat) (h : a / 4503599627370496 = 0) : sg a = a % 4503599627370496 ∧ pl a = 0 := by
  unfold sg pl
  rw [if_pos (by omega)]
  omega
theorem sg_pos (a : Nat) (h : ¬ a / 4503599627370496 = 0) : sg a = 4503599627370496 + a % 4503599627370496 ∧ (pl a : Int) - 1074 = (a / 4503599627370496 : Nat) - 1075 := by
  unfold sg pl
  rw [if_neg (by omega)]
  omega
theorem parts_any (a : Nat) (w : World) (h : a < 9218868437227405312) (h0 : 0 < a) : Calls Tryd.prog 46 #[fv a] w fun e w' => e = .returned (.tuple #[.int .u64 (strip 64 (sg a)).1, .int .i64 ((pl a : Int) - 1074 + (strip 64 (sg a)).2)]) ∧ w = w' := by
  have h1 := and52 a (by omega)
  have h2 : bits .and .u64 ((a / 4503599627370496 : Nat) : Int) 2047 = ((a / 4503599627370496 : Nat) : Int) := by rw [and11 (a / 4503599627370496) (by omega)]; omega
  have hq : ((a : Int) / 4503599627370496) = ((a / 4503599627370496 : Nat) : Int) := by omega
  have hx : a / 4503599627370496 ≤ 2046 := by omega
  have h3 := or52 (a % 4503599627370496) (by omega)
  have hz := sg_zero a
  have hp := sg_pos a
  have hs0 : a / 4503599627370496 = 0 → 0 < a % 4503599627370496 := by omega
  have hs1 : a % 4503599627370496 < 4503599627370496 := by omega
  have e1 : ((a % 4503599627370496 : Nat) : Int) = (a : Int) % 4503599627370496 := by omega
  generalize a % 4503599627370496 = m at *
  generalize a / 4503599627370496 = x at *
  generalize hS : sg a = s at *
  generalize hP : (pl a : Int) = p at *
  clear hS h h0
  have HN := Lib.hid hq; have HM := Lib.hid e1
  by_cases hx0 : x = 0
  · subst hx0
    obtain ⟨rfl, hp0⟩ := hz rfl
    have hp1 : p = 0 := by omega
    subst hp1
    have hm0 := hs0 rfl
    have HS := Lib.hid (StripAt.start (s := s) hm0 (by omega))
    clear hz hp hs0 h3 hP hp0 e1 hx HN
    replace hq : ((a : Int) / 4503599627370496) = 0 := hq
    replace h2 : bits .and .u64 0 2047 = 0 := h2
    go_enter Tryd.func46, Tryd.ntmps46
    go_wp2_with fail
    go_loop [5, 6] (fun y i => ∃ m' f k : Nat, y = .int .u64 m' ∧ i = .int .i64 (-1074 + (k : Int)) ∧ StripAt s m' f k) (fun y _ => (intOf y).toNat)
    case atStart => exact ⟨s, 64, 0, rfl, rfl, HS.out⟩
    case round =>
      obtain ⟨m', f, k, rfl, rfl, hst⟩ := hrel
      have hk : k ≤ 64 := hst.2.2.1
      have hm : 0 < m' := hst.2.1
      have ha1 := and1 m' hst.2.2.2.2.2
      by_cases he : m' % 2 = 0
      · obtain ⟨f', h'⟩ := hst.step he
        have H' := Lib.hid h'
        replace ha1 : bits .and .u64 (m' : Int) 1 = 0 := by rw [ha1, he]; rfl
        clear he hst h'
        go_wp2
        go_round
        case rel => exact ⟨m' / 2, f', k + 1, by go_num, by go_num, H'.out⟩
        case measure => simp [intOf]; omega
      · have he1 : m' % 2 = 1 := by omega
        have H' := Lib.hid (hst.stop he1)
        replace ha1 : bits .and .u64 (m' : Int) 1 = 1 := by rw [ha1, he1]; rfl
        clear he he1 hst
        go_wp2
        go_ret2
        exact ⟨by rw [H'.out.1, H'.out.2]; rfl, rfl⟩
  · obtain ⟨rfl, hp0⟩ := hp hx0
    have hd : (((x : Nat) : Int) == 0) = false := beq_eq_false_iff_ne.2 (by omega)
    have HS := Lib.hid (StripAt.start (s := 4503599627370496 + m) (by omega) (by omega))
    have HP := Lib.hid hp0
    have hx1 : 1 ≤ x := by omega
    clear hz hp hs0 hP hp0 e1 hx0
    generalize 4503599627370496 + m = s at *
    go_enter Tryd.func46, Tryd.ntmps46
    go_wp2_with fail
    go_loop [5, 6] (fun y i => ∃ m' f k : Nat, y = .int .u64 m' ∧ i = .int .i64 ((x : Int) - 1075 + (k : Int)) ∧ StripAt s m' f k) (fun y _ => (intOf y).toNat)
    case atStart => exact ⟨s, 64, 0, rfl, by simp, HS.out⟩
    case round =>
      obtain ⟨m', f, k, rfl, rfl, hst⟩ := hrel
      have hk : k ≤ 64 := hst.2.2.1
      have hm : 0 < m' := hst.2.1
      have ha1 := and1 m' hst.2.2.2.2.2
      by_cases he : m' % 2 = 0
      · obtain ⟨f', h'⟩ := hst.step he
        have H' := Lib.hid h'
        replace ha1 : bits .and .u64 (m' : Int) 1 = 0 := by rw [ha1, he]; rfl
        clear he hst h'
        go_wp2
        go_round
        case rel => exact ⟨m' / 2, f', k + 1, by go_num, by go_num, H'.out⟩
        case measure => simp [intOf]; omega
      · have he1 : m' % 2 = 1 := by omega
        have H' := Lib.hid (hst.stop he1)
        replace ha1 : bits .and .u64 (m' : Int) 1 = 1 := by rw [ha1, he1]; rfl
        clear he he1 hst
        go_wp2
        go_ret2
        exact ⟨by rw [H'.out.1, H'.out.2, HP.out]; rfl, rfl⟩
end Go.Proofs.YtjanpaallealgaaDoor.flt
