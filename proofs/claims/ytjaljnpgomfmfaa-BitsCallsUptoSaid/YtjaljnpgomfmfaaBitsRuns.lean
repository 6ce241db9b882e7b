/-
  Proved: oriellaw9.BitsRuns returns true for every argument: what is found can be marked, and cleared again it is as it was. Conditions: a text has at most 2^60 - 1 bytes, a number fits its kind.
-/
import Derived.Test.YtjaljnpgomfmfaaBits2
import Derived.Test.YtjaljnpgomfmfaaNumLaws
import Derived.Deep.QuietTactic
import Derived.BigQuiet
namespace Go.Proofs.Ytjaljnpgomfmfaa.bits
open Go.RowKit
open num (list_len ret_str Num_any)
open row (RowIs byteV)
set_option linter.unusedVariables false

theorem still {P : Program} {f : FuncId} {args : Array Value} {w : World} {n : Nat} {v : Value}
    (h : Calls P f args (w.drewN n) fun e w' => e = .returned v ∧ w.drewN n = w') : Calls P f args (w.drewN n) fun e w'' => e = .returned v ∧ ∃ m, w'' = w.drewN m :=
  h.mono fun _ _ ⟨he, hm⟩ => ⟨he, n, hm.symm⟩

theorem S_L (s : ByteArray) : S (L s) = s := rfl
theorem L_S (l : List UInt8) : L (S l) = l := rfl
theorem S_size (l : List UInt8) : (S l).size = l.length := by show l.toArray.size = _; simp
theorem mayB_len {l m : List UInt8} (h : l.length = m.length) (n : Int) : mayB l n = mayB m n := by unfold mayB; rw [h]
theorem found_good {l : List UInt8} {n want : Int} {f k : Nat} (h : FindIs l n want f k 0) :
    ∃ m : Nat, n = m ∧ m ≤ 8 * l.length ∧ IsFirst l m f ∧ IsRun l m f want k ∧ 1 ≤ want := by
  rcases h with ⟨_, _, _, h⟩ | ⟨_, _, _, _, _, h⟩ | ⟨h1, h2, h3, h4, _⟩
  · omega
  · omega
  · have hb : 0 ≤ n ∧ n ≤ 8 * (l.length : Int) := by simpa [mayB] using h1
    obtain ⟨m, rfl⟩ := Int.eq_ofNat_of_zero_le hb.1
    exact ⟨m, rfl, by omega, h3, h4, h2⟩
theorem turn_good {l : List UInt8} {n f k : Nat} (was : Bool) (hn : n ≤ 8 * l.length) (hk : 1 ≤ k) (hfk : f + k ≤ n) :
    (allAre l f was k = true → turnS l n f k was = flips l f k ∧ turnE l n f k was = 0) ∧ (allAre l f was k = false → turnS l n f k was = [] ∧ turnE l n f k was = 902) := by
  have hm : mayB l n = true := by simp [mayB]; omega
  have hnb : turnBad l n f k = false := by simp [turnBad, hm]; omega
  exact ⟨fun h => by simp [turnS, turnE, hnb, h], fun h => by simp [turnS, turnE, hnb, h]⟩
theorem run_pos {l : List UInt8} {m f k : Nat} {want : Int} (h1 : IsFirst l m f) (h2 : IsRun l m f want k) (hw : 1 ≤ want) : 1 ≤ k := by
  obtain ⟨_, _, _, h⟩ := h2
  rcases Nat.lt_or_ge k 1 with hk | hk
  · obtain rfl : k = 0 := by omega
    rcases h with h | h | h
    · omega
    · have := h1.1; omega
    · rw [Nat.add_zero, h1.2.1] at h; cases h
  · exact hk
/-- All that BitsRuns asks of what was found. -/
theorem runs_plain {l : List UInt8} {n want : Int} {f k : Nat} (h : FindIs l n want f k 0) :
    turnE l n f k false = 0 ∧ (turnS l n f k false).length = l.length ∧ turnE (turnS l n f k false) n f k true = 0 ∧ turnS (turnS l n f k false) n f k true = l ∧ turnE (turnS l n f k false) n f k false = 902 ∧
    (freeTo (turnS l n f k false) n.toNat : Int) = (freeTo l n.toNat : Int) - k ∧ 1 ≤ k ∧ (k : Int) ≤ want ∧ mayB l n = true ∧ f + k ≤ 8 * l.length := by
  obtain ⟨m, rfl, hm, hfirst, hrun, hw⟩ := found_good h
  have hk := run_pos hfirst hrun hw
  have hfk : f + k ≤ m := hrun.2.2.1
  have ha : allAre l f false k = true := (allAre_iff l f false k).2 hrun.1
  obtain ⟨e1, e2⟩ := (turn_good (l := l) false hm hk hfk).1 ha
  have hbf := bit_flips l f k
  have hb : ∀ j, j < k → bitL (flips l f k) (f + j) = true := fun j hj => by
    rw [hbf (f + j) (by omega), if_pos (by omega), hrun.1 j hj]; rfl
  have hlen := flips_len l f k
  have ha2 : allAre (flips l f k) f true k = true := (allAre_iff _ f true k).2 hb
  have ha3 : allAre (flips l f k) f false k = false := allAre_no (j := 0) (by omega) (by rw [hb 0 (by omega)]; simp)
  obtain ⟨e3, e4⟩ := (turn_good (l := flips l f k) true (by rw [hlen]; exact hm) hk hfk).1 ha2
  obtain ⟨e5, e6⟩ := (turn_good (l := flips l f k) false (by rw [hlen]; exact hm) hk hfk).2 ha3
  have hfree := freeTo_flips l f k m (by omega) (fun j h1 h2 => by
    have := hrun.1 (j - f) (by omega)
    rwa [show f + (j - f) = j from by omega] at this)
  rw [e1]
  refine ⟨e2, hlen, e4, by rw [e3, flips_back _ _ _ (by omega)], e6, ?_, hk, hrun.2.1, by simp [mayB]; omega, by omega⟩
  rw [Int.toNat_natCast]
  have : min m (f + k) = f + k := by omega
  omega

theorem eleven_find : FindIs (L ⟨#[11]⟩) 8 9 2 1 0 := by
  refine .inr (.inr ⟨by decide, by omega, ⟨by decide, by decide, fun j hj => ?_⟩, ⟨fun j hj => ?_, by omega, by decide, .inr (.inr (by decide))⟩, rfl⟩)
  · match j, hj with
    | 0, _ => decide
    | 1, _ => decide
  · match j, hj with
    | 0, _ => decide
theorem aw_find (w : World) : Calls Try.prog 43 #[.string ⟨#[11]⟩, .int .i64 8, .int .i64 9] w fun e w' => e = .returned (.tuple #[.agg #[.int .i64 2, .int .i64 1], .int .i64 0]) ∧ Below w.heap.size w w' :=
  (Find_any ⟨#[11]⟩ 8 9 w (by decide) (by decide) (by decide)).mono fun e w' ⟨f, k, c, hf, he, hb⟩ => by
    obtain ⟨rfl, rfl, rfl⟩ := hf.unique eleven_find
    exact ⟨he, hb⟩
theorem aw_mark (w : World) : Calls Try.prog 45 #[.string ⟨#[11]⟩, .int .i64 8, .agg #[.int .i64 4, .int .i64 2]] w fun e w' => e = .returned (.tuple #[.string ⟨#[59]⟩, .int .i64 0]) ∧ Below w.heap.size w w' :=
  (Mark_any ⟨#[11]⟩ 8 4 2 w (by decide) (by decide) (by decide)).mono fun e w' ⟨he, hb⟩ => ⟨by
    rw [he, show turnS (L ⟨#[11]⟩) 8 4 2 false = [59] from by decide +kernel, show turnE (L ⟨#[11]⟩) 8 4 2 false = 0 from by decide +kernel]; rfl, hb⟩
theorem aw_mark2 (w : World) : Calls Try.prog 45 #[.string ⟨#[11]⟩, .int .i64 8, .agg #[.int .i64 0, .int .i64 1]] w fun e w' => e = .returned (.tuple #[.string ⟨#[]⟩, .int .i64 902]) ∧ Below w.heap.size w w' :=
  (Mark_any ⟨#[11]⟩ 8 0 1 w (by decide) (by decide) (by decide)).mono fun e w' ⟨he, hb⟩ => ⟨by
    rw [he, show turnS (L ⟨#[11]⟩) 8 0 1 false = [] from by decide +kernel, show turnE (L ⟨#[11]⟩) 8 0 1 false = 902 from by decide +kernel]; rfl, hb⟩
theorem aw_free (w : World) : Calls Try.prog 48 #[.string ⟨#[11]⟩, .int .i64 8] w fun e w' => e = .returned (.int .i64 5) ∧ w = w' :=
  (Free_any ⟨#[11]⟩ 8 w (by decide) (by decide)).mono fun e w' ⟨he, hb⟩ => ⟨by
    rw [he]; exact ret_int (by decide +kernel), hb⟩
set_option maxRecDepth 100000 in
theorem awake (w : World) : Calls Try.prog 49 #[] w fun e w' => e = .returned (.bool true) ∧ Below w.heap.size w w' := by
  go_enter Try.func49, Try.ntmps49
  go_wp2_with fail
  (with_reducible refine (aw_find _).mono ?_); rintro e w1 ⟨rfl, hb1⟩
  go_wp2_with fail
  (with_reducible refine (aw_mark _).mono ?_); rintro e w2 ⟨rfl, hb2⟩
  go_wp2_with fail
  (with_reducible refine (aw_mark2 _).mono ?_); rintro e w3 ⟨rfl, hb3⟩
  have hb4 := hb2.trans (hb3.mono hb2.size)
  have hc0 : w3.cell? ⟨w1.heap.size, 0, none⟩ = some (.int .i64 2) := by rw [hb4.cell (by simp)]; simp
  have hc1 : w3.cell? ⟨w1.heap.size, 1, none⟩ = some (.int .i64 1) := by rw [hb4.cell (by simp)]; simp
  have HB := Lib.hid hb4
  clear hb4 hb3 hb2
  go_wp2_with (first | (go_at_call 39; refine (Num_any _ _).mono ?_; rintro e w' ⟨rfl, rfl⟩) | (go_at_call 48; refine (aw_free _).mono ?_; rintro e w' ⟨rfl, rfl⟩))
  go_ret
  exact ⟨rfl, (hb1.alloc hb1.size _).trans (HB.out.mono (by have := hb1.size; simp; omega))⟩

set_option maxRecDepth 100000 in
set_option maxHeartbeats 800000 in
theorem runs (s : ByteArray) (n want : Int) (w : World) (hs : s.size ≤ 1152921504606846975) (hn1 : n ≤ 9223372036854775807) (hw2 : want ≤ 9223372036854775807) :
    Calls Try.prog 8 #[.string s, .int .i64 n, .int .i64 want] w fun e w' => e = .returned (.bool true) ∧ Below w.heap.size w w' := by
  go_enter Try.func8, Try.ntmps8
  go_wp2_with fail
  (with_reducible refine (awake _).mono ?_); rintro e w1 ⟨rfl, hb1⟩
  go_wp2_with fail
  (with_reducible refine (Find_any _ _ _ _ hs hn1 hw2).mono ?_); rintro e w2 ⟨f, k, c, hf, rfl, hb2⟩
  unfold FindV
  have HB := Lib.hid (hb1.trans (hb2.mono hb1.size))
  clear hb1 hb2
  by_cases hc : c = 0
  · subst hc
    obtain ⟨p1, p2, p3, p4, p5, p6, p7, p8, p9, p10⟩ := runs_plain hf
    have hsz : (L s).length = s.size := list_len s
    have HM1 := Lib.hid (Mark_any s n f k · hs hn1 (by omega))
    have HM2 := Lib.hid (Clear_any (S (turnS (L s) n f k false)) n f k · (by rw [S_size, p2, hsz]; exact hs) hn1 (by omega))
    have HM3 := Lib.hid (Mark_any (S (turnS (L s) n f k false)) n f k · (by rw [S_size, p2, hsz]; exact hs) hn1 (by omega))
    have HF1 := Lib.hid (Free_any s n · (by omega) hn1)
    have HF2 := Lib.hid (Free_any (S (turnS (L s) n f k false)) n · (by rw [S_size, p2, hsz]; omega) hn1)
    unfold TurnPost at HM1 HM2 HM3
    rw [L_S, p3, p4, S_L] at HM2
    rw [L_S, p5] at HM3
    rw [p1] at HM1
    have hq : freeI (S (turnS (L s) n f k false)) n = freeI s n - k := by
      unfold freeI
      rw [L_S, mayB_len p2 n, p9, if_pos rfl, if_pos rfl, p6]
    have hfn := freeTo_le (L s) n.toNat
    have hfb : 0 ≤ freeI s n ∧ freeI s n ≤ 9223372036854775807 := by
      unfold freeI
      split
      · have := mayB_le (s := s) p9; omega
      · omega
    rw [hq] at HF2
    clear hf hq hfn p1 p2 p3 p4 p5 p6 p9 hsz
    generalize S (turnS (L s) n f k false) = m at *
    generalize S (turnS (L m) n f k false) = m3 at *
    generalize freeI s n = q at *
    go_wp2_with (first | (go_at_call 39; refine (Num_any _ _).mono ?_; rintro e w' ⟨rfl, rfl⟩))
    (with_reducible refine (HM1.out _).mono ?_); rintro e w3 ⟨rfl, hb3⟩
    have hc0 : w3.cell? ⟨w2.heap.size, 0, none⟩ = some (.int .i64 f) := by rw [hb3.cell (by simp)]; simp
    have hc1 : w3.cell? ⟨w2.heap.size, 1, none⟩ = some (.int .i64 k) := by rw [hb3.cell (by simp)]; simp
    have hz3 : w2.heap.size < w3.heap.size := by have := hb3.size; simp at this; omega
    go_wp2_with fail
    (with_reducible refine (HM2.out _).mono ?_); rintro e w4 ⟨rfl, hb4⟩
    have hc0 : w4.cell? ⟨w2.heap.size, 0, none⟩ = some (.int .i64 f) := by rw [hb4.cell (by simpa using hz3), hc0]
    have hc1 : w4.cell? ⟨w2.heap.size, 1, none⟩ = some (.int .i64 k) := by rw [hb4.cell (by simpa using hz3), hc1]
    have hz4 : w2.heap.size < w4.heap.size := by have := hb4.size; omega
    go_wp2_with fail
    (with_reducible refine (HM3.out _).mono ?_); rintro e w5 ⟨rfl, hb5⟩
    have hc0 : w5.cell? ⟨w2.heap.size, 0, none⟩ = some (.int .i64 f) := by rw [hb5.cell (by simpa using hz4), hc0]
    have hc1 : w5.cell? ⟨w2.heap.size, 1, none⟩ = some (.int .i64 k) := by rw [hb5.cell (by simpa using hz4), hc1]
    have HBB : Hid (Below w.heap.size w w5) := by
      have h1 := HB.out.alloc HB.out.size (.cells #[.int .i64 f, .int .i64 k] 41)
      have h2 := h1.trans (hb3.mono h1.size)
      have h3 := h2.trans (hb4.mono h2.size)
      exact h3.trans (hb5.mono h3.size)
    clear hb3 hb4 hb5 HB hz3 hz4
    have hk1 : decide ((1 : Int) ≤ k) = true := by simp; omega
    have hk2 : decide ((k : Int) ≤ want) = true := by simp; omega
    go_wp2_with fail
    go_quiet ((first | (go_at_call 39; with_reducible exact still (Num_any _ _)) | (go_at_call 48; with_reducible exact still (HF2.out _)) | (go_at_call 48; with_reducible exact still (HF1.out _))))
    go_wp2
    go_ret
    exact ⟨rfl, below_drewN HBB.out _⟩
  · have hcb : (c != 0) = true := by rw [bne_iff_ne]; exact hc
    have hz : f = 0 ∧ k = 0 := by
      rcases hf with ⟨_, h1, h2, _⟩ | ⟨_, _, _, h1, h2, _⟩ | ⟨_, _, _, _, h⟩
      · exact ⟨h1, h2⟩
      · exact ⟨h1, h2⟩
      · exact absurd h hc
    obtain ⟨rfl, rfl⟩ := hz
    clear hc hf
    go_wp2_with (go_at_call 39; refine (Num_any _ _).mono ?_; rintro e w' ⟨rfl, rfl⟩)
    go_ret
    exact ⟨rfl, HB.out.alloc HB.out.size _⟩
end Go.Proofs.Ytjaljnpgomfmfaa.bits
