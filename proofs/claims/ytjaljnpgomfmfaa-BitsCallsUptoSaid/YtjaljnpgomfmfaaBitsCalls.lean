/-
  Proved: oriellaw9.BitsCalls returns true for every argument: runs of free bits, marked and cleared, against the document's answer. Conditions: a text has at most 2^20 bytes, a number fits its kind.
-/
import Derived.Test.YtjaljnpgomfmfaaBitsRuns
import Derived.Deep.DeepCutAuto
namespace Go.Proofs.Ytjaljnpgomfmfaa.bits
open Go.RowKit
open num (list_len ret_str Num_any)
open row (RowIs byteV)
set_option linter.unusedVariables false

theorem infoBool : (Try.prog.info? 4).map (fun i => (i.zero, i.size, i.bytes)) = some (some (.bool false), 1, 1) := by kernel_rfl
def bitsV (l : List UInt8) (n : Nat) : List Value := (List.range n).map fun i => .bool (bitL l i)
theorem bitsV_succ (l : List UInt8) (n : Nat) : bitsV l (n + 1) = bitsV l n ++ [.bool (bitL l n)] := by simp [bitsV, List.range_succ]
theorem bitsV_get (l : List UInt8) (n i : Nat) (h : i < n) : (bitsV l n)[i]? = some (.bool (bitL l i)) := by simp [bitsV, h]

set_option maxRecDepth 100000 in
theorem asked_no (s : ByteArray) (n : Int) (w : World) (hs : s.size ≤ 1048576) (hn1 : n ≤ 9223372036854775807) (hm : mayB (L s) n = false) :
    Calls Try.prog 44 #[.string s, .int .i64 n] w fun e w' => e = .returned (.tuple #[.slice none 0 0, .bool false]) ∧ w = w' := by
  have hb : n < 0 ∨ (0 ≤ n ∧ 8 * (s.size : Int) < n) := by
    unfold mayB at hm
    rw [show (L s).length = s.size from list_len s] at hm
    simp at hm
    omega
  clear hm
  rcases hb with h | ⟨h1, h2⟩
  · have d1 : decide (n < 0) = true := by simpa using h
    go_enter Try.func44, Try.ntmps44
    go_wp2
    go_ret2
    exact ⟨rfl, rfl⟩
  · have d1 : decide (n < 0) = false := by simp; omega
    have d2 : decide (8 * (s.size : Int) < n) = true := by simp; omega
    go_enter Try.func44, Try.ntmps44
    go_wp2
    go_ret2
    exact ⟨rfl, rfl⟩

theorem half_step (c j : Nat) : c / 2 ^ j / 2 = c / 2 ^ (j + 1) := by rw [Nat.div_div_eq_div_mul, Nat.pow_succ]
theorem bit_rem (s : ByteArray) (i : Nat) (h : i / 8 < s.size) : (((s[i / 8].toNat / 2 ^ (i % 8) : Nat) : Int) % 2 == 1) = bitL (L s) i := by
  unfold bitL
  rw [getD_list s _ h, Nat.testBit_eq_decide_div_mod_eq, Bool.eq_iff_iff]
  generalize s[i / 8].toNat / 2 ^ (i % 8) = q
  simp
  omega
def AskedPost (s : ByteArray) (n : Nat) (w : World) (e : Ending) (w' : World) : Prop :=
  ∃ v, e = .returned (.tuple #[v, .bool true]) ∧ w'.ownsRow w.heap.size 4 1 v n (bitsV (L s) n) ∧ Below w.heap.size w w'
set_option maxRecDepth 100000 in
set_option maxHeartbeats 800000 in
theorem asked_yes (s : ByteArray) (n : Nat) (w : World) (hs : s.size ≤ 1048576) (hn : n ≤ 8 * s.size) :
    Calls Try.prog 44 #[.string s, .int .i64 n] w (AskedPost s n w) := by
  obtain ⟨i0, hi, hz0, hz1, hz2⟩ := info_parts infoBool
  have d1 : decide ((n : Int) < 0) = false := by simp
  have d2 : decide (8 * (s.size : Int) < n) = false := by simp; omega
  have d3 : decide ((s.size : Int) < ((n : Int) + 7) / 8) = false := by simp; omega
  go_enter Try.func44, Try.ntmps44
  go_wp2_with fail
  go_loopw [6, 7, 8, 9] (fun v i _ _ wr => ∃ k : Nat, k ≤ n ∧ i = .int .i64 k ∧ wr.ownsRow w.heap.size 4 1 v k (bitsV (L s) k) ∧ Below w.heap.size w wr) (fun _ i _ _ _ => n - (intOf i).toNat)
  case atStart => exact ⟨0, Nat.zero_le _, rfl, World.ownsRow_nil _ _ _ _, Below.refl _ _⟩
  case round =>
    obtain ⟨k, hk, rfl, hown, hbel⟩ := hrel
    have hsz := hbel.size
    by_cases hlt : k < n
    · have hk8 : k / 8 < s.size := by omega
      obtain ⟨c, HC⟩ : ∃ c, Hid (s[k / 8].toNat = c) := ⟨_, Lib.hid rfl⟩
      have hcl : c < 256 := by rw [← HC.out]; exact s[k / 8].toNat_lt
      have HBR := Lib.hid (bit_rem s k hk8)
      rw [HC.out] at HBR
      have hidx : s[k / 8].toNat = c := HC.out
      go_wp2_with fail
      go_loop [8, 9] (fun x j => ∃ q : Nat, q ≤ k % 8 ∧ j = .int .i64 q ∧ x = .int .u8 (c / 2 ^ q : Nat)) (fun _ j => k % 8 - (intOf j).toNat)
      case atStart => exact ⟨0, Nat.zero_le _, rfl, by simp [hidx]⟩
      case round =>
        obtain ⟨q, hq, rfl, rfl⟩ := hrel
        have hql : c / 2 ^ q < 256 := Nat.lt_of_le_of_lt (Nat.div_le_self _ _) hcl
        have HH := Lib.hid (half_step c q)
        by_cases hq8 : q < k % 8
        · generalize c / 2 ^ q = y at *
          go_wp2
          go_round
          case rel => exact ⟨q + 1, by omega, by go_num, by rw [← HH.out]; go_num⟩
          case measure => simp [intOf]; omega
        · obtain rfl : q = k % 8 := by omega
          generalize c / 2 ^ (k % 8) = y at *
          go_wp2_with (at_builtin; refine wpList_append_own _ rfl _ _ 44 rfl w.heap.size 4 i0 (.bool false) 1 1 Try.underlying44 hi hz0 hz1 hz2 rfl (by decide) _ _ _ rfl (hown.alloc _) ⟨wr.heap.size, 0, none⟩ 1 1 [.bool ((y : Int) % 2 == 1)] rfl rfl (cell_one_new _ _ _) (by simp [Value.oneCell']) (by unfold maxLen; omega) (by omega) (by simp; omega) ?_; intro v' w1 hown1 hgrow1 _)
          have hb1 : Below w.heap.size w w1 := (hbel.alloc hbel.size _).grown hgrow1 (by simp; omega) (fun j hj => (hown.lt j hj).1)
          have HO : Hid (w1.ownsRow w.heap.size 4 1 v' (k + 1) (bitsV (L s) (k + 1))) := by
            rw [bitsV_succ, ← HBR.out]; exact hown1
          clear hown1 hgrow1 hown
          go_wp2
          go_roundw
          case rel => exact ⟨k + 1, by omega, by go_num, HO.out, hb1⟩
          case measure => simp [intOf]; omega
    · obtain rfl : k = n := by omega
      go_wp2
      go_ret2
      exact ⟨_, rfl, hown, hbel⟩

set_option maxRecDepth 100000 in
theorem rturned_bad (s : ByteArray) (n f k : Int) (was tt : Bool) (w : World) (hs : s.size ≤ 1048576) (hn1 : n ≤ 9223372036854775807) (hf1 : f ≤ 9223372036854775807)
    (h : turnBad (L s) n f k = true) :
    Calls Try.prog 47 #[.string s, .int .i64 n, .agg #[.int .i64 f, .int .i64 k], .bool tt] w (TurnPost (L s) n f k was w) := by
  have HE := Lib.hid (turn_bad was h)
  cases hm : mayB (L s) n with
  | false =>
    have HA := Lib.hid (asked_no s n · hs hn1 hm)
    clear h hm
    go_enter Try.func47, Try.ntmps47
    go_wp2_with fail
    (with_reducible refine (HA.out _).mono ?_); rintro e w' ⟨rfl, rfl⟩
    go_wp2
    go_ret2
    exact ⟨by rw [HE.out.1, HE.out.2]; rfl, (Below.refl _ _).alloc (Nat.le_refl _) _⟩
  | true =>
    have hb := mayB_le hm
    have hbad : k < 1 ∨ (1 ≤ k ∧ f < 0) ∨ (1 ≤ k ∧ 0 ≤ f ∧ n < f) ∨ (1 ≤ k ∧ 0 ≤ f ∧ f ≤ n ∧ n - f < k) := by
      simp only [turnBad, hm, Bool.or_eq_true, decide_eq_true_eq] at h
      simp at h
      omega
    clear h hm
    obtain ⟨m, rfl⟩ := Int.eq_ofNat_of_zero_le hb.1
    have HA := Lib.hid (asked_yes s m · hs (by omega))
    rcases hbad with h1 | ⟨h1, h2⟩ | ⟨h1, h2, h3⟩ | ⟨h1, h2, h3, h4⟩
    · have d1 : decide (k < 1) = true := by simp; omega
      go_enter Try.func47, Try.ntmps47
      go_wp2_with fail
      (with_reducible refine (HA.out _).mono ?_); rintro e w1 ⟨v, rfl, hown, hb1⟩
      have hc0 : w1.cell? ⟨w.heap.size, 0, none⟩ = some (.int .i64 f) := by rw [hb1.cell (by simp)]; simp
      have hc1 : w1.cell? ⟨w.heap.size, 1, none⟩ = some (.int .i64 k) := by rw [hb1.cell (by simp)]; simp
      have HB := Lib.hid (((Below.refl _ _).alloc (Nat.le_refl _) _).trans (hb1.mono (by simp)))
      clear hown hb1
      go_wp2
      go_ret2
      exact ⟨by rw [HE.out.1, HE.out.2]; rfl, HB.out⟩
    · have d1 : decide (k < 1) = false := by simp; omega
      have d2 : decide (f < 0) = true := by simp; omega
      go_enter Try.func47, Try.ntmps47
      go_wp2_with fail
      (with_reducible refine (HA.out _).mono ?_); rintro e w1 ⟨v, rfl, hown, hb1⟩
      have hc0 : w1.cell? ⟨w.heap.size, 0, none⟩ = some (.int .i64 f) := by rw [hb1.cell (by simp)]; simp
      have hc1 : w1.cell? ⟨w.heap.size, 1, none⟩ = some (.int .i64 k) := by rw [hb1.cell (by simp)]; simp
      have HB := Lib.hid (((Below.refl _ _).alloc (Nat.le_refl _) _).trans (hb1.mono (by simp)))
      clear hown hb1
      go_wp2
      go_ret2
      exact ⟨by rw [HE.out.1, HE.out.2]; rfl, HB.out⟩
    · have d1 : decide (k < 1) = false := by simp; omega
      have d2 : decide (f < 0) = false := by simp; omega
      have d3 : decide ((m : Int) < f) = true := by simp; omega
      go_enter Try.func47, Try.ntmps47
      go_wp2_with fail
      (with_reducible refine (HA.out _).mono ?_); rintro e w1 ⟨v, rfl, hown, hb1⟩
      have hc0 : w1.cell? ⟨w.heap.size, 0, none⟩ = some (.int .i64 f) := by rw [hb1.cell (by simp)]; simp
      have hc1 : w1.cell? ⟨w.heap.size, 1, none⟩ = some (.int .i64 k) := by rw [hb1.cell (by simp)]; simp
      have HB := Lib.hid (((Below.refl _ _).alloc (Nat.le_refl _) _).trans (hb1.mono (by simp)))
      clear hown hb1
      go_wp2
      go_ret2
      exact ⟨by rw [HE.out.1, HE.out.2]; rfl, HB.out⟩
    · have d1 : decide (k < 1) = false := by simp; omega
      have d2 : decide (f < 0) = false := by simp; omega
      have d3 : decide ((m : Int) < f) = false := by simp; omega
      have d4 : decide ((m : Int) - f < k) = true := by simp; omega
      go_enter Try.func47, Try.ntmps47
      go_wp2_with fail
      (with_reducible refine (HA.out _).mono ?_); rintro e w1 ⟨v, rfl, hown, hb1⟩
      have hc0 : w1.cell? ⟨w.heap.size, 0, none⟩ = some (.int .i64 f) := by rw [hb1.cell (by simp)]; simp
      have hc1 : w1.cell? ⟨w.heap.size, 1, none⟩ = some (.int .i64 k) := by rw [hb1.cell (by simp)]; simp
      have HB := Lib.hid (((Below.refl _ _).alloc (Nat.le_refl _) _).trans (hb1.mono (by simp)))
      clear hown hb1
      go_wp2
      go_ret2
      exact ⟨by rw [HE.out.1, HE.out.2]; rfl, HB.out⟩

set_option maxRecDepth 100000 in
set_option maxHeartbeats 800000 in
theorem rturned_good (s : ByteArray) (n f k : Nat) (was : Bool) (w : World) (hs : s.size ≤ 1048576) (hn : n ≤ 8 * s.size) (hk : 1 ≤ k) (hfk : f + k ≤ n) :
    Calls Try.prog 47 #[.string s, .int .i64 n, .agg #[.int .i64 f, .int .i64 k], .bool (!was)] w (TurnPost (L s) n f k was w) := by
  obtain ⟨hyes, hno⟩ := turn_good (l := L s) (n := n) (f := f) (k := k) was (by rw [list_len]; exact hn) hk hfk
  have HYES := Lib.hid hyes; have HNO := Lib.hid hno; clear hyes hno
  have d1 : decide ((k : Int) < 1) = false := by simp; omega
  have d2 : decide ((f : Int) < 0) = false := by simp
  have d3 : decide ((n : Int) < f) = false := by simp; omega
  have d3' : decide (n < f) = false := by simp; omega
  have d4 : decide ((n : Int) - f < k) = false := by simp; omega
  go_enter Try.func47, Try.ntmps47
  go_wp2_with fail
  (with_reducible refine (asked_yes s n _ hs hn).mono ?_); rintro e w1 ⟨v, rfl, hown, hb1⟩
  obtain ⟨g, cap0, rfl⟩ : ∃ g cap, v = .slice (some ⟨g, 0, none⟩) n cap := by
    rcases hown.2 with ⟨_, hz⟩ | ⟨g, cap, cur, hv, _⟩
    · omega
    · exact ⟨g, cap, hv⟩
  have hg := hown.lt g rfl
  have hzg : w.heap.size + 1 ≤ g ∧ g < w1.heap.size := by simpa using hg
  have hc0 : w1.cell? ⟨w.heap.size, 0, none⟩ = some (.int .i64 f) := by rw [hb1.cell (by simp)]; simp
  have hc1 : w1.cell? ⟨w.heap.size, 1, none⟩ = some (.int .i64 k) := by rw [hb1.cell (by simp)]; simp
  have HB := Lib.hid (((Below.refl _ _).alloc (Nat.le_refl _) _).trans (hb1.mono (by simp)))
  have HOWN : Hid (∀ i, i < n → w1.cell? ⟨g, i, none⟩ = some (.bool (bitL (L s) i))) := fun i hi => by
    rw [hown.cellAt i (by omega), bitsV_get _ _ _ hi]
  obtain ⟨cap, w2, hcv, hcap, hrow, hbel⟩ := row.of_string w1 s
  have HROW := Lib.hid hrow; have HBEL := Lib.hid hbel
  have hz1 := hb1.size
  have hw0 : w.heap.size < w1.heap.size := by simp at hz1; omega
  have hc0' : w2.cell? ⟨w.heap.size, 0, none⟩ = some (.int .i64 f) := by rw [hbel.cell (by simpa using hw0), hc0]
  have hc1' : w2.cell? ⟨w.heap.size, 1, none⟩ = some (.int .i64 k) := by rw [hbel.cell (by simpa using hw0), hc1]
  clear hown hb1 hg hrow hbel hz1
  go_wp2_with fail
  clear hcv
  go_loopw [13] (fun i wr => ∃ j : Nat, j ≤ k ∧ i = .int .i64 ((f : Int) + j) ∧ RowIs wr w1.heap.size (flips (L s) f j) ∧ Below w1.heap.size w2 wr ∧ Hid (allAre (L s) f was j = true)) (fun i _ => f + k - (intOf i).toNat)
  case atStart => exact ⟨0, Nat.zero_le _, by simp, HROW.out, Below.refl _ _, rfl⟩
  case round =>
    obtain ⟨j, hj, rfl, hrow, hbel, HALL⟩ := hrel
    have hc0r : wr.cell? ⟨w.heap.size, 0, none⟩ = some (.int .i64 f) := by rw [hbel.cell (by simpa using hw0), hc0']
    have hc1r : wr.cell? ⟨w.heap.size, 1, none⟩ = some (.int .i64 k) := by rw [hbel.cell (by simpa using hw0), hc1']
    have HB2 : Hid (Below w.heap.size w wr) :=
      Below.trans HB.out (Below.trans (HBEL.out.mono (by omega)) (hbel.mono (by omega)))
    by_cases hlt : j < k
    · have hcm : wr.cell? ⟨g, f + j, none⟩ = some (.bool (bitL (L s) (f + j))) := by
        rw [hbel.cell (by simpa using hzg.2), HBEL.out.cell (by simpa using hzg.2), HOWN.out (f + j) (by omega)]
      by_cases hbit : bitL (L s) (f + j) = was
      · have hlen : (flips (L s) f j).length = s.size := by rw [flips_len, list_len]
        have hi8 : (f + j) / 8 < s.size := by omega
        have hcell := hrow.cell ((f + j) / 8) (by omega)
        have hfree := hrow.free ((f + j) / 8) (by omega)
        generalize hcc : (flips (L s) f j).getD ((f + j) / 8) 0 = c at *
        have HR := Lib.hid (hrow.set ((f + j) / 8) (UInt8.ofNat (c.toNat ^^^ 2 ^ ((f + j) % 8))))
        have HALL2 : Hid (allAre (L s) f was (j + 1) = true) := by rw [Hid, allAre, HALL.out, hbit]; simp
        rw [hbit] at hcm
        unfold byteV at hcell
        have h7 : (f + j) % 8 < 8 := by omega
        have HCC := Lib.hid hcc; have HLEN := Lib.hid hlen
        clear hcc hlen hbit hrow hc0 hc1 hc0' hc1'
        have HX := Lib.hid (xor_byte c ((f + j) % 8) h7)
        cases was <;>
        · go_wp2_with fail
          rw [HX.out]
          go_roundw
          case rel => exact ⟨j + 1, by omega, by go_num, by
              have h := HR.out
              rw [flips, flip1, HCC.out]; exact h, (hbel.setCell (by simp) _), HALL2.out⟩
          case measure => simp [intOf]; omega
      · have HNO2 := Lib.hid (HNO.out (allAre_no hlt hbit))
        have hbit2 : bitL (L s) (f + j) = !was := by
          cases h1 : bitL (L s) (f + j) <;> cases was <;> simp_all
        rw [hbit2] at hcm
        clear hbit hbit2 hrow hc0 hc1 hc0' hc1'
        cases was <;>
        · go_wp2_with fail
          go_ret2
          exact ⟨by rw [HNO2.out.1, HNO2.out.2]; rfl, HB2.out⟩
    · obtain rfl : j = k := by omega
      have HY2 := Lib.hid (HYES.out HALL.out)
      have hcv2 := hrow.conv cap
      rw [flips_len, list_len] at hcv2
      clear hrow hc0 hc1 hc0' hc1'
      go_wp2
      go_ret2
      exact ⟨by rw [HY2.out.1, HY2.out.2]; rfl, HB2.out⟩
theorem rturned_any (s : ByteArray) (n f k : Int) (was : Bool) (w : World) (hs : s.size ≤ 1048576) (hn1 : n ≤ 9223372036854775807) (hf1 : f ≤ 9223372036854775807) :
    Calls Try.prog 47 #[.string s, .int .i64 n, .agg #[.int .i64 f, .int .i64 k], .bool (!was)] w (TurnPost (L s) n f k was w) := by
  cases h : turnBad (L s) n f k with
  | true => exact rturned_bad s n f k was (!was) w hs hn1 hf1 h
  | false =>
    simp only [turnBad, Bool.or_eq_false_iff, decide_eq_false_iff_not] at h
    obtain ⟨⟨⟨⟨hm, h1⟩, h2⟩, h3⟩, h4⟩ := h
    have hb := mayB_le (by simpa using hm)
    obtain ⟨n', rfl⟩ := Int.eq_ofNat_of_zero_le hb.1
    obtain ⟨f', rfl⟩ := Int.eq_ofNat_of_zero_le (show 0 ≤ f by omega)
    obtain ⟨k', rfl⟩ := Int.eq_ofNat_of_zero_le (show 0 ≤ k by omega)
    exact rturned_good s n' f' k' was w hs (by omega) (by omega) (by omega)

/-- What the statement has reckoned of the first i bits: the first run. -/
def YRel (l : List UInt8) (want : Int) (i yf yl : Nat) : Prop :=
  (1 ≤ want ∧ freeTo l i = 0 ∧ yf = 0 ∧ yl = 0) ∨ (1 ≤ want ∧ IsFirst l i yf ∧ IsRun l i yf want yl) ∨ (want < 1 ∧ yl = 0 ∧ yf ≤ i)
theorem YRel.bd {l : List UInt8} {want : Int} {i yf yl : Nat} (h : YRel l want i yf yl) : yf + yl ≤ i := by
  rcases h with ⟨_, _, h1, h2⟩ | ⟨_, _, h⟩ | ⟨_, h1, h2⟩
  · omega
  · exact h.2.2.1
  · omega
theorem YRel.start (l : List UInt8) (want : Int) : YRel l want 0 0 0 := by
  rcases Int.lt_or_le want 1 with h | h
  · exact .inr (.inr ⟨h, rfl, Nat.le_refl _⟩)
  · exact .inl ⟨h, rfl, rfl, rfl⟩
theorem first_step {l : List UInt8} {i f : Nat} (h : IsFirst l i f) : IsFirst l (i + 1) f := ⟨by have := h.1; omega, h.2⟩
/-- A bit 1: nothing turns. -/
theorem YRel.used {l : List UInt8} {want : Int} {i yf yl : Nat} (h : YRel l want i yf yl) (hb : bitL l i = true) : YRel l want (i + 1) yf yl := by
  rcases h with ⟨h0, h1, h2, h3⟩ | ⟨h0, h1, h2, h3, h4, h5⟩ | ⟨h0, h1, h2⟩
  · exact .inl ⟨h0, by rw [freeTo, h1, hb]; rfl, h2, h3⟩
  · refine .inr (.inl ⟨h0, first_step h1, h2, h3, by omega, ?_⟩)
    rcases h5 with h5 | h5 | h5
    · exact .inl h5
    · exact .inr (.inr (by rw [h5]; exact hb))
    · exact .inr (.inr h5)
  · exact .inr (.inr ⟨h0, h1, by omega⟩)
/-- The first bit 0. -/
theorem YRel.first {l : List UInt8} {want : Int} {i yf : Nat} (h : YRel l want i yf 0) (hb : bitL l i = false) (hw : 1 ≤ want) : YRel l want (i + 1) i 1 := by
  rcases h with ⟨h0, h1, h2, h3⟩ | ⟨h0, h1, h2⟩ | ⟨h0, h1, h2⟩
  · refine .inr (.inl ⟨hw, ⟨by omega, hb, (freeTo_zero l i).1 h1⟩, fun j hj => ?_, by omega, Nat.le_refl _, .inr (.inl rfl)⟩)
    obtain rfl : j = 0 := by omega
    exact hb
  · have := run_pos h1 h2 hw; omega
  · omega
theorem YRel.none {l : List UInt8} {want : Int} {i yf : Nat} (h : YRel l want i yf 0) (hw : want < 1) : YRel l want (i + 1) i 0 := .inr (.inr ⟨hw, rfl, by omega⟩)
/-- A bit 0 that the run goes on to. -/
theorem YRel.longer {l : List UInt8} {want : Int} {i yf yl : Nat} (h : YRel l want i yf yl) (hb : bitL l i = false) (h0 : yl ≠ 0) (he : yf + yl = i) (hw : (yl : Int) < want) : YRel l want (i + 1) yf (yl + 1) := by
  rcases h with ⟨_, _, _, h3⟩ | ⟨g0, h1, h2, h3, h4, h5⟩ | ⟨_, h1, _⟩
  · exact absurd h3 h0
  · refine .inr (.inl ⟨g0, first_step h1, fun j hj => ?_, by omega, by omega, .inr (.inl (by omega))⟩)
    rcases Nat.lt_or_ge j yl with h | h
    · exact h2 j h
    · obtain rfl : j = yl := by omega
      rw [he]; exact hb
  · exact absurd h1 h0
/-- A bit 0 behind the run. -/
theorem YRel.behind {l : List UInt8} {want : Int} {i yf yl : Nat} (h : YRel l want i yf yl) (hb : bitL l i = false) (h0 : yl ≠ 0) (he : ¬ (yf + yl = i ∧ (yl : Int) < want)) : YRel l want (i + 1) yf yl := by
  rcases h with ⟨_, _, _, h3⟩ | ⟨g0, h1, h2, h3, h4, h5⟩ | ⟨_, h1, _⟩
  · exact absurd h3 h0
  · refine .inr (.inl ⟨g0, first_step h1, h2, h3, by omega, ?_⟩)
    rcases h5 with h5 | h5 | h5
    · exact .inl h5
    · exact .inl (by omega)
    · exact .inr (.inr h5)
  · exact absurd h1 h0

theorem carry {W w' : World} (hb : Below W.heap.size W w') {b o : Nat} {v : Value} (h : W.cell? ⟨b, o, none⟩ = some v) : w'.cell? ⟨b, o, none⟩ = some v := by
  rw [hb.cell (World.block_lt_of_cell? W _ h), h]
def askN (s : ByteArray) (n : Int) : Nat := if mayB (L s) n then n.toNat else 0
def AskAny (s : ByteArray) (n : Int) (w : World) (e : Ending) (w' : World) : Prop :=
  ∃ v, e = .returned (.tuple #[v, .bool (mayB (L s) n)]) ∧ w'.ownsRow w.heap.size 4 1 v (askN s n) (bitsV (L s) (askN s n)) ∧ Below w.heap.size w w'
theorem asked_any (s : ByteArray) (n : Int) (w : World) (hs : s.size ≤ 1048576) (hn1 : n ≤ 9223372036854775807) :
    Calls Try.prog 44 #[.string s, .int .i64 n] w (AskAny s n w) := by
  cases hm : mayB (L s) n with
  | false =>
    refine (asked_no s n w hs hn1 hm).mono fun e w' ⟨he, hw⟩ => ?_
    subst hw
    have hz : askN s n = 0 := by simp [askN, hm]
    exact ⟨_, by rw [he, hm], by rw [hz]; exact World.ownsRow_nil _ _ _ _, Below.refl _ _⟩
  | true =>
    have hb := mayB_le hm
    obtain ⟨m, rfl⟩ := Int.eq_ofNat_of_zero_le hb.1
    have hz : askN s m = m := by simp [askN, hm]
    refine (asked_yes s m w hs (by omega)).mono fun e w' ⟨v, he, ho, hbel⟩ => ?_
    exact ⟨v, by rw [he, hm], by rw [hz]; exact ho, hbel⟩
theorem shape_own {w : World} {base m : Nat} {t : TypeId} {v : Value} {xs : List Value} (h : w.ownsRow base t 1 v m xs) :
    ∃ a cap, v = .slice a m cap ∧ (0 < m → ∃ g, a = some ⟨g, 0, none⟩ ∧ base ≤ g ∧ g < w.heap.size) := by
  rcases h.2 with ⟨rfl, hz⟩ | ⟨g, cap, cur, hv, h1, h2, _⟩
  · subst hz; exact ⟨none, 0, rfl, fun h => by omega⟩
  · exact ⟨_, cap, hv, fun _ => ⟨g, rfl, h1, (Array.getElem?_eq_some_iff.1 h2).1⟩⟩
theorem Y_first {s : ByteArray} {n want : Int} {yf yl : Nat} (h : mayB (L s) n = false ∨ want < 1) : FindIs (L s) n want 0 0 900 := .inl ⟨h, rfl, rfl, rfl⟩
theorem Y_rest {s : ByteArray} {n want : Int} {yf yl : Nat} (h : mayB (L s) n = true) (hw : 1 ≤ want) (hy : YRel (L s) want (askN s n) yf yl) :
    (freeTo (L s) (askN s n) = 0 → FindIs (L s) n want 0 0 901) ∧ (freeTo (L s) (askN s n) ≠ 0 → FindIs (L s) n want yf yl 0) := by
  have hz : askN s n = n.toNat := by simp [askN, h]
  rw [hz] at hy ⊢
  constructor
  · intro h0
    exact .inr (.inl ⟨h, hw, (freeTo_zero _ _).1 h0, rfl, rfl, rfl⟩)
  · intro h0
    rcases hy with ⟨_, h1, _⟩ | ⟨_, h1, h2⟩ | ⟨h1, _⟩
    · exact absurd h1 h0
    · exact .inr (.inr ⟨h, hw, h1, h2, rfl⟩)
    · omega
theorem freeI_ask (s : ByteArray) (n : Int) : freeI s n = (freeTo (L s) (askN s n) : Nat) := by
  unfold freeI askN
  split <;> rfl

set_option maxRecDepth 100000 in
set_option maxHeartbeats 4000000 in
theorem calls (s : ByteArray) (n want f k : Int) (w : World) (hs : s.size ≤ 1048576) (hn1 : n ≤ 9223372036854775807) (hw2 : want ≤ 9223372036854775807) (hf1 : f ≤ 9223372036854775807) :
    Calls Try.prog 7 #[.string s, .int .i64 n, .int .i64 want, .agg #[.int .i64 f, .int .i64 k]] w fun e w' => e = .returned (.bool true) ∧ Below w.heap.size w w' := by
  go_enter Try.func7, Try.ntmps7
  go_wp2_with fail
  (with_reducible refine (Find_any _ _ _ _ (by omega) hn1 hw2).mono ?_); rintro e w1 ⟨xf, xl, xc, hfind, rfl, hb1⟩
  unfold FindV
  have hcf : w1.cell? ⟨w.heap.size, 0, none⟩ = some (.int .i64 f) := by rw [hb1.cell (by simp)]; simp
  have hck : w1.cell? ⟨w.heap.size, 1, none⟩ = some (.int .i64 k) := by rw [hb1.cell (by simp)]; simp
  have hz1 : w.heap.size < w1.heap.size := by have := hb1.size; simp at this; omega
  have HFIND := Lib.hid hfind; have HB1 := Lib.hid (((Below.refl _ _).alloc (Nat.le_refl _) _).trans (hb1.mono (by simp)))
  clear hfind hb1
  go_wp2_with fail
  (with_reducible refine (asked_any s n _ hs hn1).mono ?_); rintro e w2 ⟨v, rfl, hown, hb2⟩
  have hs2 : w.heap.size < (w1.alloc (.cells #[.int .i64 xf, .int .i64 xl] 41)).heap.size := by
    rw [World.size_alloc]; omega
  have hcf : w2.cell? ⟨w.heap.size, 0, none⟩ = some (.int .i64 f) := by
    rw [hb2.cell (p := ⟨w.heap.size, 0, none⟩) hs2, Below.cell (p := ⟨w.heap.size, 0, none⟩) ((Below.refl w1.heap.size w1).alloc (Nat.le_refl _) _) hz1, hcf]
  have hck : w2.cell? ⟨w.heap.size, 1, none⟩ = some (.int .i64 k) := by
    rw [hb2.cell (p := ⟨w.heap.size, 1, none⟩) hs2, Below.cell (p := ⟨w.heap.size, 1, none⟩) ((Below.refl w1.heap.size w1).alloc (Nat.le_refl _) _) hz1, hck]
  have hxf : w2.cell? ⟨w1.heap.size, 0, none⟩ = some (.int .i64 xf) := by rw [hb2.cell (by simp)]; simp
  have hxl : w2.cell? ⟨w1.heap.size, 1, none⟩ = some (.int .i64 xl) := by rw [hb2.cell (by simp)]; simp
  have hz2 : w1.heap.size < w2.heap.size := by have := hb2.size; simp at this; omega
  have HB2 := Lib.hid ((HB1.out.alloc HB1.out.size (.cells #[.int .i64 xf, .int .i64 xl] 41)).trans (hb2.mono (by have := HB1.out.size; simp; omega)))
  obtain ⟨a, cap, rfl, hsh⟩ := shape_own hown
  have HSH := Lib.hid hsh
  have HOWN := Lib.hid hown
  have HFA := Lib.hid (freeI_ask s n)
  have hm1 : askN s n ≤ 8 * s.size := by
    unfold askN
    split
    · rename_i h; have := mayB_le h; omega
    · omega
  have HY1 : Hid (∀ yf yl, YRel (L s) want (askN s n) yf yl → (mayB (L s) n = false ∨ want < 1) → xf = 0 ∧ xl = 0 ∧ xc = 900) := fun yf yl hy h => HFIND.out.unique (Y_first (yf := yf) (yl := yl) h)
  have HY2 : Hid (∀ yf yl, YRel (L s) want (askN s n) yf yl → mayB (L s) n = true → 1 ≤ want → freeTo (L s) (askN s n) = 0 → xf = 0 ∧ xl = 0 ∧ xc = 901) := fun yf yl hy h hw h0 => HFIND.out.unique ((Y_rest h hw hy).1 h0)
  have HY3 : Hid (∀ yf yl, YRel (L s) want (askN s n) yf yl → mayB (L s) n = true → 1 ≤ want → freeTo (L s) (askN s n) ≠ 0 → xf = yf ∧ xl = yl ∧ xc = 0) := fun yf yl hy h hw h0 => HFIND.out.unique ((Y_rest h hw hy).2 h0)
  clear hown hb2 hsh HFIND
  generalize askN s n = m at *
  go_wp2_with fail
  go_loopw [15, 16] (fun fr i wr => ∃ q yf yl : Nat, q ≤ m ∧ i = .int .i64 q ∧ fr = .int .i64 (freeTo (L s) q : Nat) ∧ wr = w2.alloc (.cells #[.int .i64 yf, .int .i64 yl] 41) ∧ Hid (YRel (L s) want q yf yl)) (fun _ i _ => m - (intOf i).toNat)
  case atStart => exact ⟨0, 0, 0, Nat.zero_le _, rfl, rfl, rfl, YRel.start _ _⟩
  case round =>
    obtain ⟨q, yf, yl, hq, rfl, rfl, rfl, HY⟩ := hrel
    have hfl := freeTo_le (L s) q
    have hyb := HY.out.bd
    by_cases hlt : q < m
    · obtain ⟨g, rfl, hg1, hg2⟩ := HSH.out (by omega)
      have hcm : w2.cell? ⟨g, q, none⟩ = some (.bool (bitL (L s) q)) := by rw [HOWN.out.cellAt q (by omega), bitsV_get _ _ _ hlt]
      have HS : Hid (freeTo (L s) (q + 1) = freeTo (L s) q + if bitL (L s) q then 0 else 1) := rfl
      cases hbit : bitL (L s) q with
      | true =>
        rw [hbit] at hcm HS
        have HN := Lib.hid (HY.out.used hbit)
        clear hbit
        generalize freeTo (L s) q = y at *
        go_wp2_with fail
        go_roundw
        case rel => exact ⟨q + 1, yf, yl, by omega, by go_num, by rw [HS.out]; simp, rfl, HN.out⟩
        case measure => simp [intOf]; omega
      | false =>
        rw [hbit] at hcm HS
        by_cases hy0 : yl = 0
        · subst hy0
          rcases Int.lt_or_le want 1 with hw | hw
          · have HN := Lib.hid (HY.out.none hw)
            have hd : ¬ (0 : Int) < want := by omega
            clear hbit
            generalize freeTo (L s) q = y at *
            go_wp2_with fail
            go_roundw
            case rel => exact ⟨q + 1, q, 0, by omega, by go_num, by rw [HS.out]; simp, rfl, HN.out⟩
            case measure => simp [intOf]; omega
          · have HN := Lib.hid (HY.out.first hbit hw)
            have hd : (0 : Int) < want := by omega
            clear hbit
            generalize freeTo (L s) q = y at *
            go_wp2_with fail
            go_roundw
            case rel => exact ⟨q + 1, q, 1, by omega, by go_num, by rw [HS.out]; simp, rfl, HN.out⟩
            case measure => simp [intOf]; omega
        · have hyb0 : ((yl : Int) == 0) = false := beq_eq_false_iff_ne.2 (by omega)
          by_cases he : yf + yl = q ∧ (yl : Int) < want
          · have HN := Lib.hid (HY.out.longer hbit hy0 he.1 he.2)
            have hd1 : ((yf : Int) + yl == q) = true := beq_iff_eq.2 (by omega)
            have hd2 : (yl : Int) < want := he.2
            clear hbit he hy0
            generalize freeTo (L s) q = y at *
            go_wp2_with fail
            go_roundw
            case rel => exact ⟨q + 1, yf, yl + 1, by omega, by go_num, by rw [HS.out]; simp, rfl, HN.out⟩
            case measure => simp [intOf]; omega
          · have HN := Lib.hid (HY.out.behind hbit hy0 he)
            by_cases he1 : yf + yl = q
            · have hd1 : ((yf : Int) + yl == q) = true := beq_iff_eq.2 (by omega)
              have hd2 : ¬ (yl : Int) < want := by omega
              clear hbit he hy0 he1
              generalize freeTo (L s) q = y at *
              go_wp2_with fail
              go_roundw
              case rel => exact ⟨q + 1, yf, yl, by omega, by go_num, by rw [HS.out]; simp, rfl, HN.out⟩
              case measure => simp [intOf]; omega
            · have hd1 : ((yf : Int) + yl == q) = false := beq_eq_false_iff_ne.2 (by omega)
              clear hbit he hy0 he1
              generalize freeTo (L s) q = y at *
              go_wp2_with fail
              go_roundw
              case rel => exact ⟨q + 1, yf, yl, by omega, by go_num, by rw [HS.out]; simp, rfl, HN.out⟩
              case measure => simp [intOf]; omega
    · obtain rfl : q = m := by omega
      have HM1 := Lib.hid (Mark_any s n f k · (by omega) hn1 hf1)
      have HM2 := Lib.hid (Clear_any s n f k · (by omega) hn1 hf1)
      have HM3 := Lib.hid (rturned_any s n f k false · hs hn1 hf1)
      have HM4 := Lib.hid (rturned_any s n f k true · hs hn1 hf1)
      have HM5 := Lib.hid (Free_any s n · (by omega) hn1)
      rw [HFA.out] at HM5
      rw [Bool.not_false] at HM3
      rw [Bool.not_true] at HM4
      unfold TurnPost at HM1 HM2 HM3 HM4
      generalize S (turnS (L s) n f k false) = r1 at *
      generalize turnE (L s) n f k false = r2 at *
      generalize S (turnS (L s) n f k true) = r3 at *
      generalize turnE (L s) n f k true = r4 at *
      have H1 := Lib.hid (HY1.out yf yl HY.out)
      have H2 := Lib.hid (HY2.out yf yl HY.out)
      have H3 := Lib.hid (HY3.out yf yl HY.out)
      clear HY1 HY2 HY3 HY HFA HOWN HSH
      have hz02 : w.heap.size < w2.heap.size := by omega
      have hz02' : ¬ w.heap.size = w2.heap.size := by omega
      have hz12' : ¬ w1.heap.size = w2.heap.size := by omega
      generalize mayB (L s) n = ok at *
      generalize freeTo (L s) q = fr at *
      cases ok with
      | false =>
        obtain ⟨rfl, rfl, rfl⟩ := H1.out (.inl rfl)
        clear H1 H2 H3
        have hxf : w2.cell? ⟨w1.heap.size, 0, none⟩ = some (.int .i64 0) := hxf
        have hxl : w2.cell? ⟨w1.heap.size, 1, none⟩ = some (.int .i64 0) := hxl
        have hyf : (w2.alloc (.cells #[.int .i64 0, .int .i64 0] 41)).cell? ⟨w2.heap.size, 0, none⟩ = some (.int .i64 0) := by simp
        have hyl : (w2.alloc (.cells #[.int .i64 0, .int .i64 0] 41)).cell? ⟨w2.heap.size, 1, none⟩ = some (.int .i64 0) := by simp
        have hba : Below w2.heap.size w2 (w2.alloc (.cells #[.int .i64 0, .int .i64 0] 41)) := (Below.refl _ _).alloc (Nat.le_refl _) _
        have HBA := Lib.hid hba
        go_wp2_with fail
        have hcf := carry HBA.out hcf
        have hck := carry HBA.out hck
        have hxf := carry HBA.out hxf
        have hxl := carry HBA.out hxl
        (with_reducible refine (HM1.out _).mono ?_); rintro e w3 ⟨rfl, hb3⟩
        have hcf := carry hb3 hcf
        have hck := carry hb3 hck
        have hxf := carry hb3 hxf
        have hxl := carry hb3 hxl
        have hyf := carry hb3 hyf
        have hyl := carry hb3 hyl
        go_wp2_with fail
        (with_reducible refine (HM2.out _).mono ?_); rintro e w4 ⟨rfl, hb4⟩
        have hcf := carry hb4 hcf
        have hck := carry hb4 hck
        have hxf := carry hb4 hxf
        have hxl := carry hb4 hxl
        have hyf := carry hb4 hyf
        have hyl := carry hb4 hyl
        go_wp2_with fail
        (with_reducible refine (HM3.out _).mono ?_); rintro e w5 ⟨rfl, hb5⟩
        have hcf := carry hb5 hcf
        have hck := carry hb5 hck
        have hxf := carry hb5 hxf
        have hxl := carry hb5 hxl
        have hyf := carry hb5 hyf
        have hyl := carry hb5 hyl
        go_wp2_with fail
        (with_reducible refine (HM4.out _).mono ?_); rintro e w6 ⟨rfl, hb6⟩
        have hcf := carry hb6 hcf
        have hck := carry hb6 hck
        have hxf := carry hb6 hxf
        have hxl := carry hb6 hxl
        have hyf := carry hb6 hyf
        have hyl := carry hb6 hyl
        go_wp2_with (first | (go_at_call 39; refine (Num_any _ _).mono ?_; rintro e w' ⟨rfl, rfl⟩) | (go_at_call 48; refine (HM5.out _).mono ?_; rintro e w' ⟨rfl, rfl⟩))
        (with_reducible refine (awake _).mono ?_); rintro e w7 ⟨rfl, hb7⟩
        go_wp2
        go_ret
        have h1 := HB2.out.trans (HBA.out.mono HB2.out.size)
        have h3 := h1.trans (hb3.mono h1.size)
        have h4 := h3.trans (hb4.mono h3.size)
        have h5 := h4.trans (hb5.mono h4.size)
        have h6 := h5.trans (hb6.mono h5.size)
        exact ⟨rfl, h6.trans (hb7.mono h6.size)⟩
      | true =>
        rcases Int.lt_or_le want 1 with hw | hw
        · obtain ⟨rfl, rfl, rfl⟩ := H1.out (.inr hw)
          clear H1 H2 H3
          have hdw : decide (want < 1) = true := by simpa using hw
          have hxf : w2.cell? ⟨w1.heap.size, 0, none⟩ = some (.int .i64 0) := hxf
          have hxl : w2.cell? ⟨w1.heap.size, 1, none⟩ = some (.int .i64 0) := hxl
          have hyf : (w2.alloc (.cells #[.int .i64 0, .int .i64 0] 41)).cell? ⟨w2.heap.size, 0, none⟩ = some (.int .i64 0) := by simp
          have hyl : (w2.alloc (.cells #[.int .i64 0, .int .i64 0] 41)).cell? ⟨w2.heap.size, 1, none⟩ = some (.int .i64 0) := by simp
          have hba : Below w2.heap.size w2 (w2.alloc (.cells #[.int .i64 0, .int .i64 0] 41)) := (Below.refl _ _).alloc (Nat.le_refl _) _
          have HBA := Lib.hid hba
          go_wp2_with fail
          have hcf := carry HBA.out hcf
          have hck := carry HBA.out hck
          have hxf := carry HBA.out hxf
          have hxl := carry HBA.out hxl
          (with_reducible refine (HM1.out _).mono ?_); rintro e w3 ⟨rfl, hb3⟩
          have hcf := carry hb3 hcf
          have hck := carry hb3 hck
          have hxf := carry hb3 hxf
          have hxl := carry hb3 hxl
          have hyf := carry hb3 hyf
          have hyl := carry hb3 hyl
          go_wp2_with fail
          (with_reducible refine (HM2.out _).mono ?_); rintro e w4 ⟨rfl, hb4⟩
          have hcf := carry hb4 hcf
          have hck := carry hb4 hck
          have hxf := carry hb4 hxf
          have hxl := carry hb4 hxl
          have hyf := carry hb4 hyf
          have hyl := carry hb4 hyl
          go_wp2_with fail
          (with_reducible refine (HM3.out _).mono ?_); rintro e w5 ⟨rfl, hb5⟩
          have hcf := carry hb5 hcf
          have hck := carry hb5 hck
          have hxf := carry hb5 hxf
          have hxl := carry hb5 hxl
          have hyf := carry hb5 hyf
          have hyl := carry hb5 hyl
          go_wp2_with fail
          (with_reducible refine (HM4.out _).mono ?_); rintro e w6 ⟨rfl, hb6⟩
          have hcf := carry hb6 hcf
          have hck := carry hb6 hck
          have hxf := carry hb6 hxf
          have hxl := carry hb6 hxl
          have hyf := carry hb6 hyf
          have hyl := carry hb6 hyl
          go_wp2_with (first | (go_at_call 39; refine (Num_any _ _).mono ?_; rintro e w' ⟨rfl, rfl⟩) | (go_at_call 48; refine (HM5.out _).mono ?_; rintro e w' ⟨rfl, rfl⟩))
          (with_reducible refine (awake _).mono ?_); rintro e w7 ⟨rfl, hb7⟩
          go_wp2
          go_ret
          have h1 := HB2.out.trans (HBA.out.mono HB2.out.size)
          have h3 := h1.trans (hb3.mono h1.size)
          have h4 := h3.trans (hb4.mono h3.size)
          have h5 := h4.trans (hb5.mono h4.size)
          have h6 := h5.trans (hb6.mono h5.size)
          exact ⟨rfl, h6.trans (hb7.mono h6.size)⟩
        · have hdw : decide (want < 1) = false := by simp; omega
          by_cases h0 : fr = 0
          · obtain ⟨rfl, rfl, rfl⟩ := H2.out rfl hw h0
            clear H1 H2 H3
            subst h0
            have hxf : w2.cell? ⟨w1.heap.size, 0, none⟩ = some (.int .i64 0) := hxf
            have hxl : w2.cell? ⟨w1.heap.size, 1, none⟩ = some (.int .i64 0) := hxl
            have hyf : (w2.alloc (.cells #[.int .i64 0, .int .i64 0] 41)).cell? ⟨w2.heap.size, 0, none⟩ = some (.int .i64 0) := by simp
            have hyl : (w2.alloc (.cells #[.int .i64 0, .int .i64 0] 41)).cell? ⟨w2.heap.size, 1, none⟩ = some (.int .i64 0) := by simp
            have hba : Below w2.heap.size w2 (w2.alloc (.cells #[.int .i64 0, .int .i64 0] 41)) := (Below.refl _ _).alloc (Nat.le_refl _) _
            have HBA := Lib.hid hba
            go_wp2_with fail
            have hcf := carry HBA.out hcf
            have hck := carry HBA.out hck
            have hxf := carry HBA.out hxf
            have hxl := carry HBA.out hxl
            (with_reducible refine (HM1.out _).mono ?_); rintro e w3 ⟨rfl, hb3⟩
            have hcf := carry hb3 hcf
            have hck := carry hb3 hck
            have hxf := carry hb3 hxf
            have hxl := carry hb3 hxl
            have hyf := carry hb3 hyf
            have hyl := carry hb3 hyl
            go_wp2_with fail
            (with_reducible refine (HM2.out _).mono ?_); rintro e w4 ⟨rfl, hb4⟩
            have hcf := carry hb4 hcf
            have hck := carry hb4 hck
            have hxf := carry hb4 hxf
            have hxl := carry hb4 hxl
            have hyf := carry hb4 hyf
            have hyl := carry hb4 hyl
            go_wp2_with fail
            (with_reducible refine (HM3.out _).mono ?_); rintro e w5 ⟨rfl, hb5⟩
            have hcf := carry hb5 hcf
            have hck := carry hb5 hck
            have hxf := carry hb5 hxf
            have hxl := carry hb5 hxl
            have hyf := carry hb5 hyf
            have hyl := carry hb5 hyl
            go_wp2_with fail
            (with_reducible refine (HM4.out _).mono ?_); rintro e w6 ⟨rfl, hb6⟩
            have hcf := carry hb6 hcf
            have hck := carry hb6 hck
            have hxf := carry hb6 hxf
            have hxl := carry hb6 hxl
            have hyf := carry hb6 hyf
            have hyl := carry hb6 hyl
            go_wp2_with (first | (go_at_call 39; refine (Num_any _ _).mono ?_; rintro e w' ⟨rfl, rfl⟩) | (go_at_call 48; refine (HM5.out _).mono ?_; rintro e w' ⟨rfl, rfl⟩))
            (with_reducible refine (awake _).mono ?_); rintro e w7 ⟨rfl, hb7⟩
            go_wp2
            go_ret
            have h1 := HB2.out.trans (HBA.out.mono HB2.out.size)
            have h3 := h1.trans (hb3.mono h1.size)
            have h4 := h3.trans (hb4.mono h3.size)
            have h5 := h4.trans (hb5.mono h4.size)
            have h6 := h5.trans (hb6.mono h5.size)
            exact ⟨rfl, h6.trans (hb7.mono h6.size)⟩
          · obtain ⟨rfl, rfl, rfl⟩ := H3.out rfl hw h0
            clear H1 H2 H3
            have hfr : ((fr : Int) == 0) = false := beq_eq_false_iff_ne.2 (by omega)
            clear h0
            have hyf : (w2.alloc (.cells #[.int .i64 xf, .int .i64 xl] 41)).cell? ⟨w2.heap.size, 0, none⟩ = some (.int .i64 xf) := by simp
            have hyl : (w2.alloc (.cells #[.int .i64 xf, .int .i64 xl] 41)).cell? ⟨w2.heap.size, 1, none⟩ = some (.int .i64 xl) := by simp
            have hba : Below w2.heap.size w2 (w2.alloc (.cells #[.int .i64 xf, .int .i64 xl] 41)) := (Below.refl _ _).alloc (Nat.le_refl _) _
            have HBA := Lib.hid hba
            go_wp2_with fail
            have hcf := carry HBA.out hcf
            have hck := carry HBA.out hck
            have hxf := carry HBA.out hxf
            have hxl := carry HBA.out hxl
            (with_reducible refine (HM1.out _).mono ?_); rintro e w3 ⟨rfl, hb3⟩
            have hcf := carry hb3 hcf
            have hck := carry hb3 hck
            have hxf := carry hb3 hxf
            have hxl := carry hb3 hxl
            have hyf := carry hb3 hyf
            have hyl := carry hb3 hyl
            go_wp2_with fail
            (with_reducible refine (HM2.out _).mono ?_); rintro e w4 ⟨rfl, hb4⟩
            have hcf := carry hb4 hcf
            have hck := carry hb4 hck
            have hxf := carry hb4 hxf
            have hxl := carry hb4 hxl
            have hyf := carry hb4 hyf
            have hyl := carry hb4 hyl
            go_wp2_with fail
            (with_reducible refine (HM3.out _).mono ?_); rintro e w5 ⟨rfl, hb5⟩
            have hcf := carry hb5 hcf
            have hck := carry hb5 hck
            have hxf := carry hb5 hxf
            have hxl := carry hb5 hxl
            have hyf := carry hb5 hyf
            have hyl := carry hb5 hyl
            go_wp2_with fail
            (with_reducible refine (HM4.out _).mono ?_); rintro e w6 ⟨rfl, hb6⟩
            have hcf := carry hb6 hcf
            have hck := carry hb6 hck
            have hxf := carry hb6 hxf
            have hxl := carry hb6 hxl
            have hyf := carry hb6 hyf
            have hyl := carry hb6 hyl
            go_wp2_with (first | (go_at_call 39; refine (Num_any _ _).mono ?_; rintro e w' ⟨rfl, rfl⟩) | (go_at_call 48; refine (HM5.out _).mono ?_; rintro e w' ⟨rfl, rfl⟩))
            (with_reducible refine (awake _).mono ?_); rintro e w7 ⟨rfl, hb7⟩
            go_wp2
            go_ret
            have h1 := HB2.out.trans (HBA.out.mono HB2.out.size)
            have h3 := h1.trans (hb3.mono h1.size)
            have h4 := h3.trans (hb4.mono h3.size)
            have h5 := h4.trans (hb5.mono h4.size)
            have h6 := h5.trans (hb6.mono h5.size)
            exact ⟨rfl, h6.trans (hb7.mono h6.size)⟩
end Go.Proofs.Ytjaljnpgomfmfaa.bits
