/-
  Proved: FltDecimals as a contract. Conditions: as each theorem says.
-/
import Derived.Test.YtlfpdahofpacpaaDoorFlt12
import Derived.Test.YtlfpdahofpacpaaDoorFltDec
import Derived.Test.YtlfpdahofpacpaaDoorDecimal
namespace Go.Proofs.YtlfpdahofpacpaaDoor.flt
open Go.RowKit Ieee
open num (decL decS Decimal_nat)
set_option linter.unusedVariables false
set_option maxRecDepth 100000
attribute [local go_sem] run_bits run_frombits run_neg

def strLen : Value → Nat
  | .string s => s.size
  | _ => 0
theorem str_cat (a b : List UInt8) : (⟨a.toArray⟩ : ByteArray) ++ ⟨b.toArray⟩ = ⟨(a ++ b).toArray⟩ := by
  apply ByteArray.ext
  apply Array.toList_inj.1
  simp [ByteArray.data_append]
theorem conv_uf (n : Nat) (w : World) : (convert 22 23 (.int .u64 n)).run Tryd.prog w = .ok (.float .f64 (fl n)) w := by
  have := run_convert_int_float w 22 23 .u64 .f64 (n : Int) (P := Tryd.prog) (by kernel_rfl) (by kernel_rfl)
  rw [floatOfInt_nat] at this
  exact this
theorem pad_cons (j p : Nat) : (⟨#[48]⟩ : ByteArray) ++ ⟨(padL j p).toArray⟩ = ⟨(padL (j + 1) p).toArray⟩ := str_cat [48] (padL j p)
theorem OfText_frac (neg : Bool) (x j p r : Nat) (hx : x < 100000) (hp : p < 1000000) (hj : j + (decL p).length = 6) (hr : fop .quo (fl (x * 1000000 + p)) (fl 1000000) = some r) (w : World) :
    Calls Tryd.prog 15 #[.string ⟨(fracL neg x j p).toArray⟩] w fun e w' => e = .returned (.tuple #[fv (if neg then ng r else r), .int .i64 0]) ∧ Below w.heap.size w w' := by
  obtain ⟨r', h1, h2, h3⟩ := frac_ok neg x j p hx hp hj
  obtain rfl : r' = r := Option.some.inj (h1.symm.trans hr)
  refine (OfText_any _ w ?_).mono fun e w' h => ⟨h.1.trans ?_, h.2⟩
  · have a := decL_len 4 x (by omega) hx
    have b := (pad_num j p (by omega)).2.2
    unfold fracL
    cases neg <;> simp <;> omega
  · unfold ofE; rw [h3]
set_option maxHeartbeats 2000000 in
theorem decimals (a b : Nat) (neg : Bool) (w : World) (ha : a < 18446744073709551616) (hb : b < 18446744073709551616) : Calls Tryd.prog 6 #[.int .u64 a, .int .u64 b, .bool neg] w fun e w' => e = .returned (.bool true) ∧ Below w.heap.size w w' := by
  have hx : (a : Int) % 100000 = ((a % 100000 : Nat) : Int) := by omega
  have hy : (b : Int) % 1000000 = ((b % 1000000 : Nat) : Int) := by omega
  have hxb : a % 100000 < 100000 := Nat.mod_lt _ (by omega)
  have hyb : b % 1000000 < 1000000 := Nat.mod_lt _ (by omega)
  generalize a % 100000 = x at *
  generalize b % 1000000 = p at *
  have HX := Lib.hid (fun W => Decimal_nat x (by omega) W)
  have HP := Lib.hid (fun W => Decimal_nat p (by omega) W)
  have HPL := Lib.hid (decL_len 5 p (by omega) hyb)
  have HXL := Lib.hid (decL_len 4 x (by omega) hxb)
  have eP : decS p = ⟨(padL 0 p).toArray⟩ := rfl
  rw [eP] at HP
  clear eP
  obtain ⟨r, hr, hr64, _⟩ := frac_ok false x (6 - (decL p).length) p hxb hyb (by have := HPL.out; omega)
  have HR := Lib.hid hr
  have hng := fun W => run_neg (P := Tryd.prog) r W
  rw [neg_ng r hr64] at hng
  clear ha hb hr hr64
  go_enter Tryd.func6, Tryd.ntmps6
  go_wp2_with fail
  (with_reducible refine (awake_any _).mono ?_); rintro e w1 ⟨rfl, hb1⟩
  have HB1 := Lib.hid hb1
  clear hb1
  go_wp2_with fail
  (with_reducible refine (HP.out _).mono ?_); rintro e w2 ⟨rfl, hb2⟩
  have HB2 := Lib.hid (HB1.out.trans (hb2.mono HB1.out.size))
  clear hb2
  go_wp2_with fail
  go_loop [9] (fun v => ∃ j : Nat, v = .string ⟨(padL j p).toArray⟩ ∧ j + (decL p).length ≤ 6) (fun v => 6 - strLen v)
  case atStart => exact ⟨0, rfl, by have := HPL.out; omega⟩
  case round =>
    obtain ⟨j, rfl, hj⟩ := hrel
    have hsz : (⟨(padL j p).toArray⟩ : ByteArray).size = j + (decL p).length := by rw [str_size]; exact (pad_num j p (by omega)).2.2
    have hs6 : (⟨(padL j p).toArray⟩ : ByteArray).size ≤ 6 := by omega
    by_cases hlt : j + (decL p).length < 6
    · have hcat := pad_cons j p
      have hl6 : (⟨(padL j p).toArray⟩ : ByteArray).size < 6 := by omega
      have HM : Hid (6 - (⟨(padL (j + 1) p).toArray⟩ : ByteArray).size < 6 - (⟨(padL j p).toArray⟩ : ByteArray).size) := by
        unfold Hid; rw [hsz, str_size, (pad_num (j + 1) p (by omega)).2.2]; omega
      have HJ : Hid (j + 1 + (decL p).length ≤ 6) := by unfold Hid; omega
      clear hsz hlt hj
      generalize hT : (⟨(padL (j + 1) p).toArray⟩ : ByteArray) = T2 at *
      have HT := Lib.hid hT
      clear hT
      generalize (⟨(padL j p).toArray⟩ : ByteArray) = T at *
      go_wp2_with fail
      go_round
      case rel => exact ⟨j + 1, by rw [HT.out], HJ.out⟩
      case measure => exact HM.out
    · have hj6 : j + (decL p).length = 6 := by omega
      have hge : ¬ (⟨(padL j p).toArray⟩ : ByteArray).size < 6 := by omega
      have HO := Lib.hid (fun W => OfText_frac neg x j p r hxb hyb hj6 HR.out W)
      have hxs : (decS x).size ≤ 5 := by show ((⟨(decL x).toArray⟩ : ByteArray)).size ≤ 5; rw [str_size]; exact HXL.out
      have e1 : decS x ++ (⟨#[46]⟩ : ByteArray) = ⟨(decL x ++ [46]).toArray⟩ := str_cat (decL x) [46]
      have e2 : (⟨(decL x ++ [46]).toArray⟩ : ByteArray) ++ ⟨(padL j p).toArray⟩ = ⟨(fracL false x j p).toArray⟩ := by rw [str_cat]; congr 2; simp [fracL]
      have e3 : (⟨#[45]⟩ : ByteArray) ++ ⟨(fracL false x j p).toArray⟩ = ⟨(fracL true x j p).toArray⟩ := str_cat [45] (fracL false x j p)
      have z1 : (⟨(decL x ++ [46]).toArray⟩ : ByteArray).size ≤ 6 := by rw [str_size]; simp; exact HXL.out
      have z2 : (⟨(fracL false x j p).toArray⟩ : ByteArray).size ≤ 12 := by
        rw [str_size]
        have := (pad_num j p (by omega)).2.2
        have := HXL.out
        simp [fracL]; omega
      have hq := fun W => run_float_arith (P := Tryd.prog) W .quo 23 .f64 (fl (x * 1000000 + p)) 4696837146684686336 r (by rw [million]; exact HR.out)
      have hcv : ∀ W, (convert 22 23 (.int .u64 ((x : Int) * 1000000 + (p : Int)))).run Tryd.prog W = .ok (.float .f64 (fl (x * 1000000 + p))) W := fun W => by
        have := conv_uf (x * 1000000 + p) W
        have e : ((x * 1000000 + p : Nat) : Int) = (x : Int) * 1000000 + (p : Int) := by omega
        rw [e] at this
        exact this
      clear hj hlt hsz hj6
      cases neg
      all_goals
        simp only [Bool.false_eq_true, if_false, if_true] at HO
        generalize (⟨(padL j p).toArray⟩ : ByteArray) = T at *
        generalize (⟨(decL x ++ [46]).toArray⟩ : ByteArray) = X1 at *
        generalize decS x = X at *
        generalize (⟨(fracL false x j p).toArray⟩ : ByteArray) = S1 at *
        generalize (⟨(fracL true x j p).toArray⟩ : ByteArray) = S2 at *
        go_wp2_with fail
        (with_reducible refine (HX.out _).mono ?_); rintro e w3 ⟨rfl, hb3⟩
        have HB3 := Lib.hid (HB2.out.trans (hb3.mono HB2.out.size))
        clear hb3 hx hy
        generalize fl (x * 1000000 + p) = f0 at *
        go_wp2_with fail
        (with_reducible refine (HO.out _).mono ?_); rintro e w4 ⟨rfl, hb4⟩
        have HB4 := Lib.hid (HB3.out.trans (hb4.mono HB3.out.size))
        clear hb4
        go_wp2_with (first | (go_at_call 19; refine (Num_any _ _).mono ?_; rintro e w' ⟨rfl, rfl⟩))
        go_ret
        exact ⟨rfl, HB4.out⟩
end Go.Proofs.YtlfpdahofpacpaaDoor.flt
