/-
  Proved: what the document's own digits and decimal return. Conditions: as each theorem says.
-/
import Derived.Test.YtjanpaallealgaaGreatDoorFlt12
import Derived.Test.YtjanpaallealgaaGreatDoorFltBack
namespace Go.Proofs.YtjanpaallealgaaGreatDoor.flt
open Go.RowKit Ieee
open num (list_len drop_cons)
set_option linter.unusedVariables false
set_option maxRecDepth 100000

/-- How many digits a text begins with. -/
def dg (l : List UInt8) : Nat := (l.takeWhile isD).length
theorem dg_nil : dg [] = 0 := rfl
theorem dg_yes {c : UInt8} {l : List UInt8} (h : isD c = true) : dg (c :: l) = dg l + 1 := by simp [dg, h]
theorem dg_no {c : UInt8} {l : List UInt8} (h : isD c = false) : dg (c :: l) = 0 := by simp [dg, h]
theorem dg_app {f r : List UInt8} (h : f.all isD = true) : dg (f ++ r) = f.length + dg r := by
  induction f with
  | nil => simp
  | cons c f ih =>
    rw [List.all_cons, Bool.and_eq_true] at h
    rw [List.cons_append, dg_yes h.1, ih h.2, List.length_cons]; omega
theorem dg_split (l : List UInt8) : ∃ f r, l = f ++ r ∧ f.all isD = true ∧ f.length = dg l ∧ (r = [] ∨ ∃ c r', r = c :: r' ∧ isD c = false) := by
  induction l with
  | nil => exact ⟨[], [], rfl, rfl, rfl, .inl rfl⟩
  | cons c l ih =>
    cases h : isD c
    · exact ⟨[], c :: l, rfl, rfl, (dg_no h).symm, .inr ⟨c, l, rfl, h⟩⟩
    · obtain ⟨f, r, h1, h2, h3, h4⟩ := ih
      exact ⟨c :: f, r, by rw [h1]; rfl, by rw [List.all_cons, h, h2]; rfl, by rw [dg_yes h, List.length_cons, h3], h4⟩
theorem dg_le (l : List UInt8) : dg l ≤ l.length := by
  obtain ⟨f, r, h1, _, h3, _⟩ := dg_split l
  rw [← h3, h1]; simp
theorem dg_full {l : List UInt8} : dg l = l.length ↔ l.all isD = true := by
  constructor
  · intro h
    obtain ⟨f, r, h1, h2, h3, _⟩ := dg_split l
    rw [h, h1, List.length_append] at h3
    have : r = [] := List.eq_nil_of_length_eq_zero (by omega)
    rw [h1, this, List.append_nil]; exact h2
  · intro h
    have := dg_app (r := []) h
    rw [List.append_nil] at this
    rw [this]; rfl
theorem isD_iff (c : UInt8) : isD c = true ↔ 48 ≤ (c.toNat : Int) ∧ (c.toNat : Int) ≤ 57 := by
  unfold isD
  rw [Bool.and_eq_true, decide_eq_true_iff, decide_eq_true_iff]
  omega
theorem ret_i {a b : Int} (h : a = b) : Ending.returned (.int .i64 a) = .returned (.int .i64 b) := by rw [h]
set_option maxHeartbeats 400000 in
theorem rdigits_any (s : ByteArray) (a : Nat) (w : World) (ha : a ≤ s.size) (hs : s.size ≤ 1000000000000000001) :
    Calls Tryz.prog 76 #[.string s, .int .i64 a] w fun e w' => e = .returned (.int .i64 (dg (s.data.toList.drop a))) ∧ w = w' := by
  go_enter Tryz.func76, Tryz.ntmps76
  go_wp2_with fail
  go_loop [5] (fun i => ∃ k : Nat, i = .int .i64 ((a + k : Nat) : Int) ∧ a + k ≤ s.size ∧ dg (s.data.toList.drop a) = k + dg (s.data.toList.drop (a + k))) (fun i => s.size - (intOf i).toNat)
  case atStart => exact ⟨0, by simp, by omega, by simp⟩
  case round =>
    obtain ⟨k, rfl, hk, hd⟩ := hrel
    have HD := Lib.hid hd
    clear hd
    by_cases hlt : a + k < s.size
    · have HC := Lib.hid (drop_cons s (a + k) hlt)
      by_cases hc : isD s[a + k] = true
      · have h1 := (isD_iff _).1 hc
        have HN : Hid (dg (s.data.toList.drop a) = (k + 1) + dg (s.data.toList.drop (a + (k + 1)))) := by
          unfold Hid; rw [HD.out, HC.out, dg_yes hc]; simp only [Nat.add_assoc]; omega
        obtain ⟨h2, h3⟩ := h1
        clear hc
        generalize ha2 : a + k = j at *
        have HJ := Lib.hid ha2
        clear ha2
        go_wp2_with fail
        go_round
        case rel => exact ⟨k + 1, by rw [← Nat.add_assoc, HJ.out]; go_num, by have := HJ.out; omega, HN.out⟩
        case measure => simp [intOf]; omega
      · have h1 : ¬ (48 ≤ (s[a + k].toNat : Int) ∧ (s[a + k].toNat : Int) ≤ 57) := fun h => hc ((isD_iff _).2 h)
        have HN : Hid (dg (s.data.toList.drop a) = k) := by
          unfold Hid; rw [HD.out, HC.out, dg_no (by simpa using hc)]; rfl
        clear hc
        by_cases h2 : 48 ≤ (s[a + k].toNat : Int)
        · have h3 : ¬ (s[a + k].toNat : Int) ≤ 57 := fun h => h1 ⟨h2, h⟩
          clear h1
          generalize ha2 : a + k = j at *
          have HJ := Lib.hid ha2
          clear ha2
          have hle : a ≤ j := by have := HJ.out; omega
          go_wp2_with fail
          go_ret
          exact ⟨ret_i (by rw [HN.out, ← HJ.out]; omega), rfl⟩
        · clear h1
          generalize ha2 : a + k = j at *
          have HJ := Lib.hid ha2
          clear ha2
          have hle : a ≤ j := by have := HJ.out; omega
          go_wp2_with fail
          go_ret
          exact ⟨ret_i (by rw [HN.out, ← HJ.out]; omega), rfl⟩
    · have HN : Hid (dg (s.data.toList.drop a) = k) := by
        unfold Hid; rw [HD.out, List.drop_eq_nil_of_le (by rw [list_len]; omega)]; rfl
      generalize ha2 : a + k = j at *
      have HJ := Lib.hid ha2
      clear ha2
      have hle : a ≤ j := by have := HJ.out; omega
      go_wp2_with fail
      go_ret
      exact ⟨ret_i (by rw [HN.out, ← HJ.out]; omega), rfl⟩
theorem rdec_bad (S : ByteArray) (k : Nat) (w : World) (hz : S.size ≤ 1000000000000000001) (hk : k < S.size) (hne : ((S[k].toNat : Int) == 46) = false)
    (HD : Hid (∀ W, Calls Tryz.prog 76 #[.string S, .int .i64 0] W fun e w' => e = .returned (.int .i64 (k : Nat)) ∧ W = w')) :
    Calls Tryz.prog 62 #[.string S] w fun e w' => e = .returned (.tuple #[fv 0, .bool false]) ∧ w = w' := by
  have h1 : ¬ k = S.size := by omega
  go_enter Tryz.func62, Tryz.ntmps62
  go_wp2_with (go_at_call 76; refine (HD.out _).mono ?_; rintro e w1 ⟨rfl, rfl⟩)
  go_ret2
  exact ⟨rfl, rfl⟩
theorem rdec_less (S : ByteArray) (k m : Nat) (w : World) (hz : S.size ≤ 1000000000000000001) (hk : k < S.size) (hne : ((S[k].toNat : Int) == 46) = true)
    (HD : Hid (∀ W, Calls Tryz.prog 76 #[.string S, .int .i64 0] W fun e w' => e = .returned (.int .i64 (k : Nat)) ∧ W = w'))
    (HE : Hid (∀ W, Calls Tryz.prog 76 #[.string S, .int .i64 ((k : Int) + 1)] W fun e w' => e = .returned (.int .i64 (m : Nat)) ∧ W = w')) (hm : m ≤ S.size) (h : m = 0 ∨ k + 1 + m ≠ S.size) :
    Calls Tryz.prog 62 #[.string S] w fun e w' => e = .returned (.tuple #[fv 0, .bool false]) ∧ w = w' := by
  by_cases h0 : m = 0
  · subst h0
    clear h
    go_enter Tryz.func62, Tryz.ntmps62
    go_wp2_with (go_at_call 76; first | ((with_reducible refine (HD.out _).mono ?_); rintro e w1 ⟨rfl, rfl⟩) | ((with_reducible refine (HE.out _).mono ?_); rintro e w1 ⟨rfl, rfl⟩))
    go_ret2
    exact ⟨rfl, rfl⟩
  · have h1 : ¬ (k : Int) + 1 + m = S.size := by omega
    have h2 : ((m : Int) == 0) = false := beq_eq_false_iff_ne.2 (by omega)
    clear h
    go_enter Tryz.func62, Tryz.ntmps62
    go_wp2_with (go_at_call 76; first | ((with_reducible refine (HD.out _).mono ?_); rintro e w1 ⟨rfl, rfl⟩) | ((with_reducible refine (HE.out _).mono ?_); rintro e w1 ⟨rfl, rfl⟩))
    go_ret2
    exact ⟨rfl, rfl⟩
end Go.Proofs.YtjanpaallealgaaGreatDoor.flt
