/-
  Proved: the statement PathTexts, as a contract, for texts up to a bound. Conditions: as each theorem says.
-/
import Derived.Test.YtfmalomhmijciaaPathRef4
namespace Go.Proofs.Ytfmalomhmijciaa.path
open Go.RowKit Go.Shelf
open heap
set_option linter.unusedVariables false

set_option maxRecDepth 100000 in
set_option maxHeartbeats 1000000 in
theorem rClean_any (cwd s : List UInt8) (w : World) (hc : cwd.length ≤ 2000000) (hs : s.length ≤ 2000000) :
    Calls Try.prog 11 #[sv cwd, sv s] w fun e w' => e = .returned (.tuple #[sv (cleanR cwd s).1, .int .i64 (cleanR cwd s).2]) ∧ Below w.heap.size w w' := by
  have HC := Lib.hid (fun W : World => rIsClean_any cwd W hc)
  have z := str_size s
  cases h1 : cleanB cwd with
  | false =>
    have e : cleanR cwd s = ([], 401) := by simp [cleanR, h1]
    rw [e]
    rw [h1] at HC
    go_enter Try.func11, Try.ntmps11
    go_wp2_with fail
    (with_reducible refine (HC.out _).mono ?_); rintro e w1 ⟨rfl, hb1⟩
    have HB1 := Lib.hid hb1
    clear hb1 HC
    go_wp2_with fail
    first | go_ret | go_ret2
    exact ⟨rfl, HB1.out⟩
  | true =>
    by_cases h2 : s = []
    · have e : cleanR cwd s = ([], 400) := by simp [cleanR, h1, h2]
      rw [e]
      rw [h1] at HC
      subst h2
      go_enter Try.func11, Try.ntmps11
      go_wp2_with fail
      (with_reducible refine (HC.out _).mono ?_); rintro e w1 ⟨rfl, hb1⟩
      have HB1 := Lib.hid hb1
      clear hb1 HC
      go_wp2_with fail
      first | go_ret | go_ret2
      exact ⟨rfl, HB1.out⟩
    · by_cases h3 : 560 < s.length
      · have e : cleanR cwd s = ([], 403) := by simp [cleanR, h1, h2, h3]
        rw [e]
        rw [h1] at HC
        have b0 : s.isEmpty = false := by cases s <;> simp_all
        have b0' : (s == []) = false := by rw [beq_eq_false_iff_ne]; exact h2
        clear h2
        go_enter Try.func11, Try.ntmps11
        go_wp2_with fail
        (with_reducible refine (HC.out _).mono ?_); rintro e w1 ⟨rfl, hb1⟩
        have HB1 := Lib.hid hb1
        clear hb1 HC
        have d560 : decide ((560 : Int) < (s.length : Int)) = true := decide_eq_true (by omega)
        go_wp2_with fail
        first | go_ret | go_ret2
        exact ⟨rfl, HB1.out⟩
      · exact rClean_main cwd s w hc h1 h2 (by omega)
set_option maxRecDepth 100000 in
set_option maxHeartbeats 4000000 in
theorem texts (cwd s : List UInt8) (w : World) (hc : cwd.length ≤ 1048576) (hs : s.length ≤ 1048576) :
    Calls Try.prog 4 #[sv cwd, sv s] w fun e w' => e = .returned (.bool true) ∧ Below w.heap.size w w' := by
  have HC1 := Lib.hid (fun W : World => Clean_any cwd s W (by omega) (by omega))
  have HC2 := Lib.hid (fun W : World => rClean_any cwd s W (by omega) (by omega))
  have HP1 := Lib.hid (fun W : World => Parts_any s W (by omega))
  have HP2 := Lib.hid (fun W : World => rParts_any s W (by omega))
  have HN1 := Lib.hid (fun W : World => Name_any s W (by omega))
  have HN2 := Lib.hid (fun W : World => rName_any s W (by omega))
  have HB1 := Lib.hid (fun W : World => Below_any cwd s W (by omega))
  have HB2 := Lib.hid (fun W : World => rBelow_any cwd s W (by omega) (by omega))
  have HJ1 := Lib.hid (fun W : World => pJoin_any cwd s W (by omega))
  have HJ2 := Lib.hid (fun W : World => rJoin_any cwd s W (by omega))
  have HNU := Lib.hid Num_any
  have HBD := Lib.hid (parts_bd s)
  generalize cleanR cwd s = r at *
  obtain ⟨a, er⟩ := r
  generalize partsL s = xs at *
  generalize nameE s = nm at *
  generalize belowB cwd s = bl at *
  generalize pJoin cwd s = jn at *
  simp only at HC1 HC2
  have hxl : xs.length ≤ 9000000 := by have := HBD.out.1; omega
  have HXQ : Hid (∀ q ∈ xs, q.length ≤ 9000000) := fun q hq => by have := HBD.out.2 q hq; omega
  clear HBD
  go_enter Try.func4, Try.ntmps4
  go_wp2_with fail
  (with_reducible refine (HC1.out _).mono ?_); rintro e w1 ⟨rfl, hb1⟩
  have W1 := Lib.hid hb1
  clear hb1
  go_wp2_with fail
  (with_reducible refine (HC2.out _).mono ?_); rintro e w2 ⟨rfl, hb2⟩
  have W2 : Hid (Below w.heap.size w w2) := W1.out.trans (hb2.mono W1.out.size)
  clear hb2
  go_wp2_with fail
  (with_reducible refine (HP1.out _).mono ?_); rintro e w3 ⟨vx, rfl, hrx, hb3⟩
  obtain ⟨ax, cx, rfl⟩ := own_slice hrx
  have W3 : Hid (Below w.heap.size w w3) := W2.out.trans (hb3.mono W2.out.size)
  have RX := Lib.hid hrx
  clear hb3 hrx
  go_wp2_with fail
  (with_reducible refine (HP1.out _).mono ?_); rintro e w4 ⟨vy, rfl, hry, hb4⟩
  obtain ⟨ay, cy, rfl⟩ := own_slice hry
  have W4 : Hid (Below w.heap.size w w4) := W3.out.trans (hb4.mono W3.out.size)
  have RX4 : Hid (SRow w4 w2.heap.size (.slice ax xs.length cx) xs) := RX.out.below hb4
  have RY := Lib.hid hry
  clear hb4 hry
  go_wp2_with (go_at_call 9; refine (HNU.out _ _).mono ?_; rintro e w' ⟨rfl, rfl⟩)
  (with_reducible refine (HP2.out _).mono ?_); rintro e w5 ⟨vz, rfl, hrz, hb5⟩
  obtain ⟨az, cz, rfl⟩ := own_slice hrz
  have W5 : Hid (Below w.heap.size w w5) := W4.out.trans (hb5.mono W4.out.size)
  have RX5 : Hid (SRow w5 w2.heap.size (.slice ax xs.length cx) xs) := RX4.out.below hb5
  have RY5 : Hid (SRow w5 w3.heap.size (.slice ay xs.length cy) xs) := RY.out.below hb5
  have HS1 := Lib.hid (SameTexts_eq _ _ _ _ xs w5 RX5.out hrz hxl)
  clear hb5 hrz
  go_wp2_with fail
  (with_reducible refine HS1.out.mono ?_); rintro e w6 ⟨rfl, hb6⟩
  have W6 : Hid (Below w.heap.size w w6) := W5.out.trans (hb6.mono W5.out.size)
  have RX6 : Hid (SRow w6 w2.heap.size (.slice ax xs.length cx) xs) := RX5.out.below hb6
  have RY6 : Hid (SRow w6 w3.heap.size (.slice ay xs.length cy) xs) := RY5.out.below hb6
  have HSP := Lib.hid (SpoilTexts_any _ _ xs w6 RX6.out hxl HXQ.out)
  clear hb6 HS1
  go_wp2_with fail
  (with_reducible refine HSP.out.mono ?_); rintro e w7 ⟨⟨u7, rfl⟩, ht7⟩
  have HT7 : Hid (Turned (Value.slice ax xs.length cx).ownBlock.toList w6 w7) := ht7 _ (fun g hg => by simp [hg])
  have W7 : Hid (Below w.heap.size w w7) := W6.out.trans (HT7.out.below W6.out.size (fun k hk => by
    have h1 := (World.ownsRow.lt RX.out k (by simpa using hk)).1
    have := W2.out.size
    omega))
  have RY7 : Hid (SRow w7 w3.heap.size (.slice ay xs.length cy) xs) := RY6.out.turned HT7.out (fun g hg hm => by
    have h1 := (World.ownsRow.lt RX.out g (by simpa using hm)).2
    have h2 := (World.ownsRow.lt RY.out g hg).1
    omega)
  clear ht7 HT7 HSP
  go_wp2_with fail
  (with_reducible refine (HN1.out _).mono ?_); rintro e w8 ⟨rfl, hb8⟩
  have W8 : Hid (Below w.heap.size w w8) := W7.out.trans (hb8.mono W7.out.size)
  have RY8 : Hid (SRow w8 w3.heap.size (.slice ay xs.length cy) xs) := RY7.out.below hb8
  clear hb8
  go_wp2_with fail
  (with_reducible refine (HP2.out _).mono ?_); rintro e w9 ⟨vz, rfl, hrz, hb9⟩
  obtain ⟨az2, cz2, rfl⟩ := own_slice hrz
  have W9 : Hid (Below w.heap.size w w9) := W8.out.trans (hb9.mono W8.out.size)
  have RY9 : Hid (SRow w9 w3.heap.size (.slice ay xs.length cy) xs) := RY8.out.below hb9
  have HS2 := Lib.hid (SameTexts_eq _ _ _ _ xs w9 RY9.out hrz hxl)
  clear hb9 hrz
  go_wp2_with fail
  (with_reducible refine HS2.out.mono ?_); rintro e w10 ⟨rfl, hb10⟩
  have W10 : Hid (Below w.heap.size w w10) := W9.out.trans (hb10.mono W9.out.size)
  clear hb10 HS2
  go_wp2_with (go_at_call 9; refine (HNU.out _ _).mono ?_; rintro e w' ⟨rfl, rfl⟩)
  (with_reducible refine (HN2.out _).mono ?_); rintro e w11 ⟨rfl, rfl⟩
  go_wp2_with fail
  (with_reducible refine (HB1.out _).mono ?_); rintro e w12 ⟨rfl, hb12⟩
  have W12 : Hid (Below w.heap.size w w12) := W10.out.trans (hb12.mono W10.out.size)
  clear hb12
  go_wp2_with fail
  (with_reducible refine (HB2.out _).mono ?_); rintro e w13 ⟨rfl, rfl⟩
  go_wp2_with fail
  (with_reducible refine (HJ1.out _).mono ?_); rintro e w14 ⟨rfl, hb14⟩
  have W14 : Hid (Below w.heap.size w w14) := W12.out.trans (hb14.mono W12.out.size)
  clear hb14
  go_wp2_with fail
  (with_reducible refine (HJ2.out _).mono ?_); rintro e w15 ⟨rfl, rfl⟩
  go_wp2_with fail
  (with_reducible refine (awake_any _).mono ?_); rintro e w16 ⟨rfl, hb16⟩
  have W16 : Hid (Below w.heap.size w w16) := W14.out.trans (hb16.mono W14.out.size)
  clear hb16
  go_wp2_with fail
  go_ret
  exact ⟨rfl, W16.out⟩
end Go.Proofs.Ytfmalomhmijciaa.path
