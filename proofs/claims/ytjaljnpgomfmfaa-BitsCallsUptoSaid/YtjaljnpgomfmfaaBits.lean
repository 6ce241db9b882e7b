/-
  Proved: what the Go functions of package bits return for every argument. Conditions: a text has at most maxLen bytes, a number fits its kind.
-/
import Derived.Test.YtjaljnpgomfmfaaNum2
import Derived.Test.YtjaljnpgomfmfaaBitsPlain
import Derived.RegionTactic
namespace Go.Proofs.Ytjaljnpgomfmfaa.bits
open Go.RowKit
open num (list_len ret_str)
set_option linter.unusedVariables false

abbrev L (s : ByteArray) : List UInt8 := s.data.toList
theorem ret_bool {a b : Bool} (h : a = b) : Ending.returned (.bool a) = .returned (.bool b) := by rw [h]
theorem ret_int {k : IntKind} {a b : Int} (h : a = b) : Ending.returned (.int k a) = .returned (.int k b) := by rw [h]

theorem may_in (s : ByteArray) (n : Int) (h0 : 0 ≤ n) : decide (n / 8 + (n % 8 + 7) / 8 ≤ (s.size : Int)) = mayB (L s) n := by
  unfold mayB
  rw [show (L s).length = s.size from list_len s, Bool.eq_iff_iff]
  simp
  omega
set_option maxRecDepth 100000 in
theorem may_any (s : ByteArray) (n : Int) (w : World) (hs : s.size ≤ 9223372036854775807) (h1 : n ≤ 9223372036854775807) :
    Calls Try.prog 71 #[.string s, .int .i64 n] w fun e w' => e = .returned (.bool (mayB (L s) n)) ∧ w = w' := by
  rcases Int.lt_or_le n 0 with h0 | h0
  · have hd : decide (0 ≤ n) = false := by simp; omega
    have HM : Hid (mayB (L s) n = false) := by simp [Hid, mayB, hd]
    go_enter Try.func71, Try.ntmps71
    go_wp2
    go_ret
    exact ⟨ret_bool HM.out.symm, rfl⟩
  · have hd : decide (0 ≤ n) = true := by simpa using h0
    have HM := Lib.hid (may_in s n h0)
    go_enter Try.func71, Try.ntmps71
    go_wp2
    go_ret
    exact ⟨ret_bool HM.out, rfl⟩

theorem getD_list (s : ByteArray) (j : Nat) (h : j < s.size) : (L s).getD j 0 = s[j] := by
  have : j < (L s).length := by rw [list_len]; exact h
  rw [List.getD_eq_getElem?_getD, List.getElem?_eq_getElem this]; rfl
set_option maxRecDepth 100000 in
theorem bit_any (s : ByteArray) (i : Nat) (w : World) (hs : s.size ≤ 9223372036854775807) (h0 : i < 8 * s.size) (h1 : i ≤ 9223372036854775807) :
    Calls Try.prog 72 #[.string s, .int .i64 i] w fun e w' => e = .returned (.bool (bitL (L s) i)) ∧ w = w' := by
  have hand := and7 i (by omega)
  have hi8 : i / 8 < s.size := by omega
  have HB : Hid ((Go.bits BinOp.and IntKind.u8 ((s[i / 8].toNat : Int) / 2 ^ (i % 8)) 1 == 1) = bitL (L s) i) := by
    rw [Hid, bit_test, bitL, getD_list s _ hi8]
  have h7 : i % 8 < 8 := by omega
  go_enter Try.func72, Try.ntmps72
  go_wp2
  go_ret
  exact ⟨ret_bool HB.out, rfl⟩

theorem mayB_le {s : ByteArray} {n : Int} (h : mayB (L s) n = true) : 0 ≤ n ∧ n ≤ 8 * (s.size : Int) := by
  unfold mayB at h
  rw [show (L s).length = s.size from list_len s] at h
  simpa using h
def freeI (s : ByteArray) (n : Int) : Int := if mayB (L s) n then (freeTo (L s) n.toNat : Nat) else 0
set_option maxRecDepth 100000 in
theorem Free_any (s : ByteArray) (n : Int) (w : World) (hs : s.size ≤ 9223372036854775807) (h1 : n ≤ 9223372036854775807) :
    Calls Try.prog 48 #[.string s, .int .i64 n] w fun e w' => e = .returned (.int .i64 (freeI s n)) ∧ w = w' := by
  have HM := Lib.hid (may_any s n · hs h1)
  cases hm : mayB (L s) n with
  | false =>
    have HF : Hid (freeI s n = 0) := by simp [Hid, freeI, hm]
    rw [hm] at HM
    go_enter Try.func48, Try.ntmps48
    go_wp2_with fail
    (with_reducible refine (HM.out _).mono ?_); rintro e w' ⟨rfl, rfl⟩
    go_wp2
    go_ret
    exact ⟨ret_int HF.out.symm, rfl⟩
  | true =>
    have hb := mayB_le hm
    obtain ⟨m, rfl⟩ := Int.eq_ofNat_of_zero_le hb.1
    have HF : Hid (freeI s m = (freeTo (L s) m : Nat)) := by simp [Hid, freeI, hm]
    rw [hm] at HM
    clear hm
    go_enter Try.func48, Try.ntmps48
    go_wp2_with fail
    (with_reducible refine (HM.out _).mono ?_); rintro e w' ⟨rfl, rfl⟩
    go_wp2_with fail
    go_loop [5, 6, 12] (fun f _ i => ∃ k : Nat, k ≤ m ∧ i = .int .i64 k ∧ f = .int .i64 (freeTo (L s) k : Nat)) (fun _ _ i => m - (intOf i).toNat)
    case atStart => exact ⟨0, Nat.zero_le _, rfl, rfl⟩
    case round =>
      obtain ⟨k, hk, rfl, rfl⟩ := hrel
      have hfl := freeTo_le (L s) k
      by_cases hlt : k < m
      · have HS : Hid (freeTo (L s) (k + 1) = freeTo (L s) k + if bitL (L s) k then 0 else 1) := rfl
        have HC := Lib.hid (bit_any s k · hs (by omega) (by omega))
        cases hbit : bitL (L s) k with
        | false =>
          rw [hbit] at HC HS
          generalize freeTo (L s) k = q at *
          go_wp2_with (go_at_call 72; refine (HC.out _).mono ?_; rintro e w' ⟨rfl, rfl⟩)
          go_round
          case rel => exact ⟨k + 1, by omega, by go_num, by rw [HS.out]; simp⟩
          case measure => simp [intOf]; omega
        | true =>
          rw [hbit] at HC HS
          generalize freeTo (L s) k = q at *
          go_wp2_with (go_at_call 72; refine (HC.out _).mono ?_; rintro e w' ⟨rfl, rfl⟩)
          go_round
          case rel => exact ⟨k + 1, by omega, by go_num, by rw [HS.out]; simp⟩
          case measure => simp [intOf]; omega
      · obtain rfl : k = m := by omega
        generalize freeTo (L s) k = q at *
        go_wp2
        go_ret
        exact ⟨ret_int HF.out.symm, rfl⟩

/-- What Find returns. -/
def FindV (f k : Nat) (c : Int) : Value := .tuple #[.agg #[.int .i64 f, .int .i64 k], .int .i64 c]
def FindPost (s : ByteArray) (n want : Int) (w : World) (e : Ending) (w' : World) : Prop := ∃ f k c, FindIs (L s) n want f k c ∧ e = .returned (FindV f k c) ∧ Below w.heap.size w w'

set_option maxRecDepth 100000 in
theorem Find_bad (s : ByteArray) (n want : Int) (w : World) (hs : s.size ≤ 9223372036854775807) (h1 : n ≤ 9223372036854775807) (h : mayB (L s) n = false ∨ want < 1) :
    Calls Try.prog 43 #[.string s, .int .i64 n, .int .i64 want] w (FindPost s n want w) := by
  have HM := Lib.hid (may_any s n · hs h1)
  have HF : Hid (FindIs (L s) n want 0 0 900) := .inl ⟨h, rfl, rfl, rfl⟩
  cases hm : mayB (L s) n with
  | false =>
    rw [hm] at HM
    clear h hm
    go_enter Try.func43, Try.ntmps43
    go_wp2_with fail
    (with_reducible refine (HM.out _).mono ?_); rintro e w' ⟨rfl, rfl⟩
    go_wp2
    exact bodyPost_ret (v := .tuple #[.agg #[.int .i64 0, .int .i64 0], .int .i64 900]) (by simp [results, Try.results43, go_sem]) rfl ⟨0, 0, 900, HF.out, rfl, (Below.refl _ _).alloc (Nat.le_refl _) _⟩
  | true =>
    have hw : decide (want < 1) = true := by simpa [hm] using h
    rw [hm] at HM
    clear h hm
    go_enter Try.func43, Try.ntmps43
    go_wp2_with fail
    (with_reducible refine (HM.out _).mono ?_); rintro e w' ⟨rfl, rfl⟩
    go_wp2
    exact bodyPost_ret (v := .tuple #[.agg #[.int .i64 0, .int .i64 0], .int .i64 900]) (by simp [results, Try.results43, go_sem]) rfl ⟨0, 0, 900, HF.out, rfl, (Below.refl _ _).alloc (Nat.le_refl _) _⟩

/-- A byte 255 has no bit 0. -/
theorem full_byte (l : List UInt8) (i : Nat) (hi : i % 8 = 0) (h : (l.getD (i / 8) 0).toNat = 255) (j : Nat) (h1 : i ≤ j) (h2 : j < i + 8) : bitL l j = true := by
  unfold bitL
  rw [show j / 8 = i / 8 from by omega, h]
  have h8 : j % 8 < 8 := by omega
  generalize j % 8 = r at h8
  match r, h8 with
  | 0, _ => rfl
  | 1, _ => rfl
  | 2, _ => rfl
  | 3, _ => rfl
  | 4, _ => rfl
  | 5, _ => rfl
  | 6, _ => rfl
  | 7, _ => rfl

set_option maxRecDepth 100000 in
set_option maxHeartbeats 800000 in
theorem Find_good (s : ByteArray) (n : Nat) (want : Int) (w : World) (hs : s.size ≤ 1152921504606846975) (h1 : n ≤ 8 * s.size) (hw : 1 ≤ want) (hw2 : want ≤ 9223372036854775807) :
    Calls Try.prog 43 #[.string s, .int .i64 n, .int .i64 want] w (FindPost s n want w) := by
  have hm : mayB (L s) n = true := by
    unfold mayB; rw [show (L s).length = s.size from list_len s]; simp; omega
  have HM := Lib.hid (may_any s n · (by omega) (by omega))
  rw [hm] at HM
  have HMM := Lib.hid hm
  clear hm
  have hd : decide (want < 1) = false := by simp; omega
  go_enter Try.func43, Try.ntmps43
  go_wp2_with fail
  (with_reducible refine (HM.out _).mono ?_); rintro e w' ⟨rfl, rfl⟩
  go_wp2_with fail
  go_loop [8] (fun i => ∃ k : Nat, k ≤ n + 7 ∧ i = .int .i64 k ∧ Hid (∀ j, j < k → j < n → bitL (L s) j = true)) (fun i => n + 8 - (intOf i).toNat)
  case atStart => exact ⟨0, by omega, rfl, fun j hj => by omega⟩
  case round =>
    obtain ⟨k, hk, rfl, HA⟩ := hrel
    by_cases hlt : k < n
    · have HC := Lib.hid (bit_any s k · (by omega) (by omega) (by omega))
      cases hbit : bitL (L s) k with
      | true =>
        rw [hbit] at HC
        have HB := Lib.hid hbit; clear hbit
        have hand := and7 k (by omega)
        have hk8 : k / 8 < s.size := by omega
        by_cases hz : k % 8 = 0 ∧ s[k / 8].toNat = 255
        · have hz1 : ((k : Int) % 8 == 0) = true := beq_iff_eq.2 (by omega)
          have hz2 : ((s[k / 8].toNat : Int) == 255) = true := beq_iff_eq.2 (by omega)
          have HN : Hid (∀ j, j < k + 8 → j < n → bitL (L s) j = true) := fun j hj hn => by
            rcases Nat.lt_or_ge j k with h | h
            · exact HA.out j h hn
            · exact full_byte (L s) k hz.1 (by rw [getD_list s _ hk8]; exact hz.2) j h hj
          clear hz
          go_wp2_with (go_at_call 72; refine (HC.out _).mono ?_; rintro e w' ⟨rfl, rfl⟩)
          go_round
          case rel => exact ⟨k + 8, by omega, by go_num, HN.out⟩
          case measure => simp [intOf]; omega
        · have HN : Hid (∀ j, j < k + 1 → j < n → bitL (L s) j = true) := fun j hj hn => by
            rcases Nat.lt_or_ge j k with h | h
            · exact HA.out j h hn
            · obtain rfl : j = k := by omega
              exact HB.out
          by_cases hz1 : k % 8 = 0
          · have hz1' : ((k : Int) % 8 == 0) = true := beq_iff_eq.2 (by omega)
            have hz2 : ((s[k / 8].toNat : Int) == 255) = false := beq_eq_false_iff_ne.2 (by omega)
            clear hz hz1
            go_wp2_with (go_at_call 72; refine (HC.out _).mono ?_; rintro e w' ⟨rfl, rfl⟩)
            go_round
            case rel => exact ⟨k + 1, by omega, by go_num, HN.out⟩
            case measure => simp [intOf]; omega
          · have hz1' : ((k : Int) % 8 == 0) = false := beq_eq_false_iff_ne.2 (by omega)
            clear hz hz1
            go_wp2_with (go_at_call 72; refine (HC.out _).mono ?_; rintro e w' ⟨rfl, rfl⟩)
            go_round
            case rel => exact ⟨k + 1, by omega, by go_num, HN.out⟩
            case measure => simp [intOf]; omega
      | false =>
        rw [hbit] at HC
        have HFS : Hid (IsFirst (L s) n k) := ⟨hlt, hbit, fun j hj => HA.out j hj (by omega)⟩
        clear hbit
        have hnk : decide (n ≤ k) = false := by simp; omega
        go_wp2_with (go_at_call 72; refine (HC.out _).mono ?_; rintro e w' ⟨rfl, rfl⟩)
        go_loopw [] (fun wr => ∃ q : Nat, q ≤ n - k ∧ (q : Int) ≤ want ∧ wr = (w.alloc (.cells #[.int .i64 0, .int .i64 0] 41)).alloc (.cells #[.int .i64 k, .int .i64 q] 41) ∧ Hid (∀ j, j < q → bitL (L s) (k + j) = false)) (fun wr => n - (intOf ((wr.cell? ⟨w.heap.size + 1, 1, none⟩).getD (.bool false))).toNat)
        case atStart => exact ⟨0, by omega, by omega, rfl, fun j hj => by omega⟩
        case round =>
          obtain ⟨q, hq, hqw, rfl, HQ⟩ := hrel
          have HEND : Hid ((q : Int) = want ∨ k + q = n ∨ bitL (L s) (k + q) = true → FindIs (L s) n want k q 0) := fun h =>
            .inr (.inr ⟨HMM.out, hw, HFS.out, ⟨HQ.out, hqw, by show k + q ≤ n; omega, h⟩, rfl⟩)
          by_cases hq1 : (q : Int) = want
          · have hq1' : ¬ (q : Int) < want := by omega
            have HE := Lib.hid (HEND.out (.inl hq1))
            clear hq1
            go_wp2_with fail
            exact bodyPost_ret (v := .tuple #[.agg #[.int .i64 k, .int .i64 q], .int .i64 0]) (by simp [results, Try.results43, go_sem]) rfl ⟨k, q, 0, HE.out, rfl, ((Below.refl _ _).alloc (Nat.le_refl _) _).alloc (by simp) _⟩
          have hq1' : (q : Int) < want := by omega
          by_cases hq2 : k + q = n
          · have hq2' : ¬ (k : Int) + q < n := by omega
            have HE := Lib.hid (HEND.out (.inr (.inl hq2)))
            clear hq1 hq2
            go_wp2_with fail
            exact bodyPost_ret (v := .tuple #[.agg #[.int .i64 k, .int .i64 q], .int .i64 0]) (by simp [results, Try.results43, go_sem]) rfl ⟨k, q, 0, HE.out, rfl, ((Below.refl _ _).alloc (Nat.le_refl _) _).alloc (by simp) _⟩
          have hq2' : (k : Int) + q < n := by omega
          have HC2 : Hid (∀ x : World, Calls Try.prog 72 #[.string s, .int .i64 ((k : Int) + q)] x fun e w' => e = .returned (.bool (bitL (L s) (k + q))) ∧ x = w') := fun x => by
            have := bit_any s (k + q) x (by omega) (by omega) (by omega)
            rw [show (((k + q : Nat)) : Int) = (k : Int) + q from by omega] at this
            exact this
          clear hq1 hq2
          cases hbit : bitL (L s) (k + q) with
          | true =>
            have HE := Lib.hid (HEND.out (.inr (.inr hbit)))
            rw [hbit] at HC2
            clear hbit
            go_wp2_with (go_at_call 72; refine (HC2.out _).mono ?_; rintro e w' ⟨rfl, rfl⟩)
            exact bodyPost_ret (v := .tuple #[.agg #[.int .i64 k, .int .i64 q], .int .i64 0]) (by simp [results, Try.results43, go_sem]) rfl ⟨k, q, 0, HE.out, rfl, ((Below.refl _ _).alloc (Nat.le_refl _) _).alloc (by simp) _⟩
          | false =>
            have HN : Hid (∀ j, j < q + 1 → bitL (L s) (k + j) = false) := fun j hj => by
              rcases Nat.lt_or_ge j q with h | h
              · exact HQ.out j h
              · obtain rfl : j = q := by omega
                exact hbit
            rw [hbit] at HC2
            clear hbit
            go_wp2_with (go_at_call 72; refine (HC2.out _).mono ?_; rintro e w' ⟨rfl, rfl⟩)
            go_roundw
            case rel => exact ⟨q + 1, by omega, by omega, rfl, HN.out⟩
            case measure => simp [intOf]; omega
    · have HF : Hid (FindIs (L s) n want 0 0 901) := .inr (.inl ⟨HMM.out, hw, fun j hj => HA.out j (by omega) (by omega), rfl, rfl, rfl⟩)
      go_wp2_with fail
      exact bodyPost_ret (v := .tuple #[.agg #[.int .i64 0, .int .i64 0], .int .i64 901]) (by simp [results, Try.results43, go_sem]) rfl ⟨0, 0, 901, HF.out, rfl, (Below.refl _ _).alloc (Nat.le_refl _) _⟩

theorem Find_any (s : ByteArray) (n want : Int) (w : World) (hs : s.size ≤ 1152921504606846975) (h1 : n ≤ 9223372036854775807) (hw2 : want ≤ 9223372036854775807) :
    Calls Try.prog 43 #[.string s, .int .i64 n, .int .i64 want] w (FindPost s n want w) := by
  by_cases h : mayB (L s) n = true ∧ 1 ≤ want
  · have hb := mayB_le h.1
    obtain ⟨m, rfl⟩ := Int.eq_ofNat_of_zero_le hb.1
    exact Find_good s m want w hs (by omega) h.2 hw2
  · refine Find_bad s n want w (by omega) h1 ?_
    cases hm : mayB (L s) n with
    | false => exact .inl rfl
    | true => exact .inr (by simp [hm] at h; omega)
end Go.Proofs.Ytjaljnpgomfmfaa.bits
