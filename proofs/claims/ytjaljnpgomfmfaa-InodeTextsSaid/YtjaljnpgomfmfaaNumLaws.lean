/-
  Proved: oriellaw1.NumTexts and oriellaw1.NumBack return true for every argument. Conditions: a text has at most maxLen bytes, a number fits its kind.
-/
import Derived.Test.YtjaljnpgomfmfaaNum2
namespace Go.Proofs.Ytjaljnpgomfmfaa.num
open Go.RowKit
set_option linter.unusedVariables false

theorem Num_any (n : Int) (w : World) : Calls Try.prog 39 #[.int .i64 n] w fun e w' => e = .returned (.int .i64 n) ∧ w = w' := by
  go_enter Try.func39, Try.ntmps39
  go_wp2
  go_ret
  exact ⟨rfl, rfl⟩
theorem le258 (w : World) : Calls Try.prog 33 #[.int .u64 258, .int .i64 2] w fun e w' => e = .returned (.tuple #[.string ⟨#[2, 1]⟩, .int .i64 0]) ∧ Below w.heap.size w w' :=
  (Le_any 258 2 w (by unfold U64; decide)).mono fun e w' ⟨he, hb⟩ => ⟨by
    rw [he, show leS 258 2 = ⟨#[2, 1]⟩ from by decide +kernel, show leE 258 2 = 0 from by decide +kernel], hb⟩
theorem of120 (w : World) : Calls Try.prog 37 #[.string ⟨#[49, 50, 48]⟩] w fun e w' => e = .returned (.tuple #[.int .u64 120, .int .i64 0]) ∧ w = w' :=
  (OfDec_any ⟨#[49, 50, 48]⟩ w (by decide)).mono fun e w' ⟨he, hb⟩ => ⟨by
    rw [he, show ofDecX (⟨#[49, 50, 48]⟩ : ByteArray).data.toList = 120 from by decide +kernel, show ofDecE (⟨#[49, 50, 48]⟩ : ByteArray).data.toList = 0 from by decide +kernel]; rfl, hb⟩
theorem of012 (w : World) : Calls Try.prog 37 #[.string ⟨#[48, 49, 50]⟩] w fun e w' => e = .returned (.tuple #[.int .u64 0, .int .i64 101]) ∧ w = w' :=
  (OfDec_any ⟨#[48, 49, 50]⟩ w (by decide)).mono fun e w' ⟨he, hb⟩ => ⟨by
    rw [he, show ofDecX (⟨#[48, 49, 50]⟩ : ByteArray).data.toList = 0 from by decide +kernel, show ofDecE (⟨#[48, 49, 50]⟩ : ByteArray).data.toList = 101 from by decide +kernel]; rfl, hb⟩
theorem decMax (w : World) : Calls Try.prog 40 #[.int .u64 18446744073709551615] w fun e w' => e = .returned (.string ⟨#[49, 56, 52, 52, 54, 55, 52, 52, 48, 55, 51, 55, 48, 57, 53, 53, 49, 54, 49, 53]⟩) ∧ Below w.heap.size w w' :=
  (Dec_any 18446744073709551615 w (by unfold U64; omega)).mono fun e w' ⟨he, hb⟩ => ⟨by
    rw [he]; exact ret_str (by decide +kernel), hb⟩

set_option maxRecDepth 100000 in
theorem awake (w : World) : Calls Try.prog 42 #[] w fun e w' => e = .returned (.bool true) ∧ Below w.heap.size w w' := by
  go_enter Try.func42, Try.ntmps42
  go_wp2_with fail
  (with_reducible refine (le258 _).mono ?_); rintro e w1 ⟨rfl, hb1⟩
  go_wp2_with fail
  (with_reducible refine (of120 _).mono ?_); rintro e w' ⟨rfl, rfl⟩
  go_wp2_with fail
  (with_reducible refine (of012 _).mono ?_); rintro e w' ⟨rfl, rfl⟩
  go_wp2_with (go_at_call 39; refine (Num_any _ _).mono ?_; rintro e w' ⟨rfl, rfl⟩)
  (with_reducible refine (decMax _).mono ?_); rintro e w2 ⟨rfl, hb2⟩
  go_wp2
  go_ret
  exact ⟨rfl, hb1.trans (hb2.mono hb1.size)⟩

set_option maxRecDepth 100000 in
theorem texts (x : Nat) (k : Int) (s t : ByteArray) (w : World) (hx : U64 x) (hs : s.size ≤ maxLen) (ht : t.size ≤ maxLen) :
    Calls Try.prog 5 #[.int .u64 x, .int .i64 k, .string s, .string t] w fun e w' => e = .returned (.bool true) ∧ Below w.heap.size w w' := by
  have H1 := Lib.hid (fun w => Le_any x k w hx)
  have H2 := Lib.hid (fun w => rLe_any x k w hx)
  have H3 := Lib.hid (fun w => OfLe_any s w hs)
  have H4 := Lib.hid (fun w => rOfLe_any s w hs)
  have H5 := Lib.hid (fun w => OfDec_any t w ht)
  have H6 := Lib.hid (fun w => rOfDec_any t w ht)
  have H7 := Lib.hid (fun w => Dec_any x w hx)
  have H8 := Lib.hid (fun w => rDec_any x w hx)
  clear hs ht
  generalize leS x k = a1 at *
  generalize leE x k = a2 at *
  generalize ((ofLeV s : Nat) : Int) = a3 at *
  generalize ofLeE s = a4 at *
  generalize ((ofDecX t.data.toList : Nat) : Int) = a5 at *
  generalize ofDecE t.data.toList = a6 at *
  generalize decS x = a7 at *
  go_enter Try.func5, Try.ntmps5
  go_wp2_with fail
  (with_reducible refine (H1.out _).mono ?_); rintro e w1 ⟨rfl, hb1⟩
  go_wp2_with fail
  (with_reducible refine (H2.out _).mono ?_); rintro e w2 ⟨rfl, hb2⟩
  go_wp2_with fail
  (with_reducible refine (H3.out _).mono ?_); rintro e w' ⟨rfl, rfl⟩
  go_wp2_with fail
  (with_reducible refine (H4.out _).mono ?_); rintro e w' ⟨rfl, rfl⟩
  go_wp2_with fail
  (with_reducible refine (H5.out _).mono ?_); rintro e w' ⟨rfl, rfl⟩
  go_wp2_with fail
  (with_reducible refine (H6.out _).mono ?_); rintro e w' ⟨rfl, rfl⟩
  go_wp2_with (go_at_call 39; refine (Num_any _ _).mono ?_; rintro e w' ⟨rfl, rfl⟩)
  (with_reducible refine (H7.out _).mono ?_); rintro e w3 ⟨rfl, hb3⟩
  go_wp2_with fail
  (with_reducible refine (H8.out _).mono ?_); rintro e w4 ⟨rfl, hb4⟩
  go_wp2_with (go_at_call 39; refine (Num_any _ _).mono ?_; rintro e w' ⟨rfl, rfl⟩)
  (with_reducible refine (awake _).mono ?_); rintro e w5 ⟨rfl, hb5⟩
  go_wp2
  go_ret
  have h2 := hb1.trans (hb2.mono hb1.size)
  have h3 := h2.trans (hb3.mono h2.size)
  have h4 := h3.trans (hb4.mono h3.size)
  exact ⟨rfl, h4.trans (hb5.mono h4.size)⟩

theorem back_le (x : Nat) (hx : U64 x) : (leS x 8).size ≤ maxLen ∧ ofLeV (leS x 8) = x ∧ ofLeE (leS x 8) = 0 ∧ leE x 8 = 0 := by
  have hg : leGood x 8 = true := (leGood_iff x 8).2 ⟨by omega, by omega, by
    show x < 256 ^ 8
    exact Nat.lt_of_lt_of_le hx (by decide)⟩
  have e8 : (8 : Int).toNat = 8 := rfl
  have hs : (leS x 8).size = 8 := by rw [(le_yes hg).1, strOfNums_size, bytesTo_len, e8]
  have hl : ofLeL (leS x 8).data.toList = x := by
    rw [(le_yes hg).1, strOfNums_data, ofLeL_bytes, e8]
    exact Nat.mod_eq_of_lt (Nat.lt_of_lt_of_le hx (by decide))
  refine ⟨by rw [hs]; decide, ?_, ?_, (le_yes hg).2⟩
  · unfold ofLeV; rw [hs, if_neg (by omega), hl]
  · unfold ofLeE; rw [hs, if_neg (by omega)]
theorem decS_size (x : Nat) : (decS x).size ≤ 20 := by
  have := (decF_len 19 x).2
  show (decF 19 x).toArray.size ≤ 20
  rw [List.size_toArray]; exact this
theorem zero_dec (x : Nat) : (⟨#[48]⟩ ++ decS x : ByteArray).data.toList = 48 :: decL x := by
  simp [ByteArray.data_append, decS]

set_option maxRecDepth 100000 in
theorem back (x : Nat) (w : World) (hx : U64 x) :
    Calls Try.prog 6 #[.int .u64 x] w fun e w' => e = .returned (.bool true) ∧ Below w.heap.size w w' := by
  have hz := decS_size x
  obtain ⟨p1, p2, p3, p4⟩ := back_le x hx
  have H1 := Lib.hid (fun w => Le_any x 8 w hx)
  have H2 := Lib.hid (fun w => OfLe_any (leS x 8) w p1)
  have H7 := Lib.hid (fun w => Dec_any x w hx)
  have q := ofDec_yes (l := decL x) (ofDecV_dec x hx)
  have q2 := ofDec_no (l := 48 :: decL x) (ofDecV_zero x)
  have H3 : Hid (∀ w, Calls Try.prog 37 #[.string (decS x)] w fun e w' => e = .returned (.tuple #[.int .u64 x, .int .i64 0]) ∧ w = w') := fun w => by
    have := OfDec_any (decS x) w (by unfold maxLen; omega)
    rw [show (decS x).data.toList = decL x from rfl, q.1, q.2] at this
    exact this
  have H4 : Hid (∀ w, Calls Try.prog 37 #[.string (⟨#[48]⟩ ++ decS x)] w fun e w' => e = .returned (.tuple #[.int .u64 0, .int .i64 101]) ∧ w = w') := fun w => by
    have := OfDec_any (⟨#[48]⟩ ++ decS x) w (by
      have e : (⟨#[48]⟩ ++ decS x : ByteArray).size = 1 + (decS x).size := by rw [ByteArray.size_append]; rfl
      rw [e]; unfold maxLen; omega)
    rw [zero_dec, q2.1, q2.2] at this
    exact this
  rw [p2, p3] at H2
  rw [p4] at H1
  clear p1 p2 p3 p4 q q2
  generalize leS x 8 = a1 at *
  generalize decS x = a7 at *
  go_enter Try.func6, Try.ntmps6
  go_wp2_with fail
  (with_reducible refine (awake _).mono ?_); rintro e w1 ⟨rfl, hb1⟩
  go_wp2_with fail
  (with_reducible refine (H1.out _).mono ?_); rintro e w2 ⟨rfl, hb2⟩
  go_wp2_with fail
  (with_reducible refine (H2.out _).mono ?_); rintro e w' ⟨rfl, rfl⟩
  go_wp2_with fail
  (with_reducible refine (H7.out _).mono ?_); rintro e w3 ⟨rfl, hb3⟩
  go_wp2_with fail
  (with_reducible refine (H3.out _).mono ?_); rintro e w' ⟨rfl, rfl⟩
  go_wp2_with fail
  (with_reducible refine (H7.out _).mono ?_); rintro e w4 ⟨rfl, hb4⟩
  go_wp2_with fail
  (with_reducible refine (H4.out _).mono ?_); rintro e w' ⟨rfl, rfl⟩
  go_wp2_with (go_at_call 39; refine (Num_any _ _).mono ?_; rintro e w' ⟨rfl, rfl⟩)
  go_ret
  have h2 := hb1.trans (hb2.mono hb1.size)
  have h3 := h2.trans (hb3.mono h2.size)
  exact ⟨rfl, h3.trans (hb4.mono h3.size)⟩
end Go.Proofs.Ytjaljnpgomfmfaa.num
