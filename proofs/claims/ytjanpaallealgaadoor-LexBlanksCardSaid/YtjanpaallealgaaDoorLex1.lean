/-
  Proved: what the small functions of package lex return (the four runs written by wip/bin/lex1.py). Conditions: as each theorem says.
-/
import Derived.Test.YtjanpaallealgaaDoorLexPlain
namespace Go.Proofs.YtjanpaallealgaaDoor.lex
open Go.RowKit
open flt (isD)
open num (list_len drop_cons)
set_option linter.unusedVariables false
set_option maxRecDepth 100000

def lineB (c : UInt8) : Bool := !(c == 10)
theorem isDI (c : UInt8) : isD c = true ↔ 48 ≤ (c.toNat : Int) ∧ (c.toNat : Int) ≤ 57 := by
  unfold isD
  rw [Bool.and_eq_true, decide_eq_true_iff, decide_eq_true_iff]
  omega
theorem all_u8 {p q : UInt8 → Bool} (h : ∀ n : Fin 256, p (UInt8.ofNat n.val) = q (UInt8.ofNat n.val)) (c : UInt8) : p c = q c := by
  have := h ⟨c.toNat, c.toNat_lt⟩
  simpa using this
def iB (c : Int) : Bool := c == 32 || c == 9 || c == 10 || c == 13
theorem blank_eq (c : UInt8) : blankB c = iB (c.toNat : Int) := all_u8 (q := fun c => iB (c.toNat : Int)) (by decide +kernel) c
theorem blank1_any (c : UInt8) (w : World) : Calls Tryd.prog 13 #[.int .u8 c.toNat] w fun e w' => e = .returned (.bool (blankB c)) ∧ w = w' := by
  have HE := Lib.hid (blank_eq c)
  unfold iB at HE
  cases h1 : ((c.toNat : Int) == 32) <;> cases h2 : ((c.toNat : Int) == 9) <;> cases h3 : ((c.toNat : Int) == 10) <;> cases h4 : ((c.toNat : Int) == 13) <;> rw [h1, h2, h3, h4] at HE <;>
  · go_enter Tryd.func13, Tryd.ntmps13
    go_wp2_with fail
    go_ret
    exact ⟨by rw [HE.out]; rfl, rfl⟩
theorem line_eq (c : UInt8) : lineB c = ((c.toNat : Int) != 10) := all_u8 (q := fun c => ((c.toNat : Int) != 10)) (by decide +kernel) c
theorem line1_any (c : UInt8) (w : World) : Calls Tryd.prog 15 #[.int .u8 c.toNat] w fun e w' => e = .returned (.bool (lineB c)) ∧ w = w' := by
  have HE := Lib.hid (line_eq c)
  go_enter Tryd.func15, Tryd.ntmps15
  go_wp2_with fail
  go_ret
  exact ⟨by rw [HE.out]; rfl, rfl⟩
theorem dig1_any (c : UInt8) (w : World) : Calls Tryd.prog 19 #[.int .u8 c.toNat] w fun e w' => e = .returned (.bool (isD c)) ∧ w = w' := by
  have HE := Lib.hid (isDI c)
  by_cases h1 : 48 ≤ (c.toNat : Int)
  · by_cases h2 : (c.toNat : Int) ≤ 57
    · have HI : Hid (isD c = true) := HE.out.2 ⟨h1, h2⟩
      have d1 : decide (48 ≤ (c.toNat : Int)) = true := decide_eq_true h1
      have d2 : decide ((c.toNat : Int) ≤ 57) = true := decide_eq_true h2
      clear h1 h2
      go_enter Tryd.func19, Tryd.ntmps19
      go_wp2_with fail
      go_ret
      exact ⟨by rw [HI.out]; rfl, rfl⟩
    · have HI : Hid (isD c = false) := by
        unfold Hid
        cases h : isD c with
        | false => rfl
        | true => exact absurd (HE.out.1 h).2 h2
      have d1 : decide (48 ≤ (c.toNat : Int)) = true := decide_eq_true h1
      have d2 : decide ((c.toNat : Int) ≤ 57) = false := decide_eq_false h2
      clear h1 h2
      go_enter Tryd.func19, Tryd.ntmps19
      go_wp2_with fail
      go_ret
      exact ⟨by rw [HI.out]; rfl, rfl⟩
  · have HI : Hid (isD c = false) := by
      unfold Hid
      cases h : isD c with
      | false => rfl
      | true => exact absurd (HE.out.1 h).1 h1
    have d1 : decide (48 ≤ (c.toNat : Int)) = false := decide_eq_false h1
    clear h1
    go_enter Tryd.func19, Tryd.ntmps19
    go_wp2_with fail
    go_ret
    exact ⟨by rw [HI.out]; rfl, rfl⟩
def lB (c : Int) : Bool := c == 95 || (decide (97 ≤ bits .or .u8 c 32) && decide (bits .or .u8 c 32 ≤ 122))
theorem let_eq (c : UInt8) : letB c = lB (c.toNat : Int) := all_u8 (q := fun c => lB (c.toNat : Int)) (by decide +kernel) c
theorem let1_any (c : UInt8) (w : World) : Calls Tryd.prog 17 #[.int .u8 c.toNat] w fun e w' => e = .returned (.bool (letB c)) ∧ w = w' := by
  have HE := Lib.hid (let_eq c)
  unfold lB at HE
  obtain ⟨x, hx⟩ : ∃ x, bits .or .u8 (c.toNat : Int) 32 = x := ⟨_, rfl⟩
  rw [hx] at HE
  cases h1 : ((c.toNat : Int) == 95) <;> cases h2 : decide (97 ≤ x) <;> cases h3 : decide (x ≤ 122) <;> rw [h1, h2, h3] at HE <;>
  · go_enter Tryd.func17, Tryd.ntmps17
    go_wp2_with fail
    go_ret
    exact ⟨by rw [HE.out]; rfl, rfl⟩
theorem word1_any (c : UInt8) (w : World) : Calls Tryd.prog 18 #[.int .u8 c.toNat] w fun e w' => e = .returned (.bool (wordB c)) ∧ w = w' := by
  have H1 := Lib.hid (fun W => let1_any c W)
  have H2 := Lib.hid (fun W => dig1_any c W)
  have HE : Hid (wordB c = (letB c || isD c)) := rfl
  cases h1 : letB c <;> rw [h1] at H1 HE <;>
  · clear h1
    go_enter Tryd.func18, Tryd.ntmps18
    go_wp2_with (first | (go_at_call 17; refine (H1.out _).mono ?_; rintro e w1 ⟨rfl, rfl⟩) | (go_at_call 19; refine (H2.out _).mono ?_; rintro e w1 ⟨rfl, rfl⟩))
    go_ret
    exact ⟨by rw [HE.out]; rfl, rfl⟩
theorem runB_nil (p : UInt8 → Bool) : runB p [] = 0 := rfl
theorem runB_yes {p : UInt8 → Bool} {c : UInt8} {l : List UInt8} (h : p c = true) : runB p (c :: l) = runB p l + 1 := by simp [runB, h]
theorem runB_no {p : UInt8 → Bool} {c : UInt8} {l : List UInt8} (h : p c = false) : runB p (c :: l) = 0 := by simp [runB, h]
theorem ret_i {a b : Int} (h : a = b) : Ending.returned (.int .i64 a) = .returned (.int .i64 b) := by rw [h]
set_option maxHeartbeats 400000 in
theorem run_blank (s : ByteArray) (w : World) (hs : s.size ≤ 1000000000000000001) :
    Calls Tryd.prog 11 #[.string s, .func (.func 13) #[] #[]] w fun e w' => e = .returned (.int .i64 (runB blankB s.data.toList)) ∧ w = w' := by
  go_enter Tryd.func11, Tryd.ntmps11
  go_wp2_with fail
  go_loop [5] (fun i => ∃ k : Nat, i = .int .i64 k ∧ k ≤ s.size ∧ runB blankB s.data.toList = k + runB blankB (s.data.toList.drop k)) (fun i => s.size - (intOf i).toNat)
  case atStart => exact ⟨0, rfl, by omega, by simp⟩
  case round =>
    obtain ⟨k, rfl, hk, hd⟩ := hrel
    have HD := Lib.hid hd
    clear hd
    by_cases hlt : k < s.size
    · have HC := Lib.hid (drop_cons s k hlt)
      have HF := Lib.hid (fun W => blank1_any s[k] W)
      cases hc : blankB s[k]
      · rw [hc] at HF
        have HN : Hid (runB blankB s.data.toList = k) := by
          unfold Hid; rw [HD.out, HC.out, runB_no hc]; rfl
        clear hc
        go_wp2_with (go_at_call 13; refine (HF.out _).mono ?_; rintro e w1 ⟨rfl, rfl⟩)
        go_ret
        exact ⟨ret_i (by rw [HN.out]), rfl⟩
      · rw [hc] at HF
        have HN : Hid (runB blankB s.data.toList = (k + 1) + runB blankB (s.data.toList.drop (k + 1))) := by
          unfold Hid; rw [HD.out, HC.out, runB_yes hc]; omega
        clear hc
        go_wp2_with (go_at_call 13; refine (HF.out _).mono ?_; rintro e w1 ⟨rfl, rfl⟩)
        go_round
        case rel => exact ⟨k + 1, by go_num, by omega, HN.out⟩
        case measure => simp [intOf]; omega
    · have HN : Hid (runB blankB s.data.toList = k) := by
        unfold Hid; rw [HD.out, List.drop_eq_nil_of_le (by rw [list_len]; omega)]; rfl
      go_wp2_with fail
      go_ret
      exact ⟨ret_i (by rw [HN.out]), rfl⟩
set_option maxHeartbeats 400000 in
theorem run_line (s : ByteArray) (w : World) (hs : s.size ≤ 1000000000000000001) :
    Calls Tryd.prog 11 #[.string s, .func (.func 15) #[] #[]] w fun e w' => e = .returned (.int .i64 (runB lineB s.data.toList)) ∧ w = w' := by
  go_enter Tryd.func11, Tryd.ntmps11
  go_wp2_with fail
  go_loop [5] (fun i => ∃ k : Nat, i = .int .i64 k ∧ k ≤ s.size ∧ runB lineB s.data.toList = k + runB lineB (s.data.toList.drop k)) (fun i => s.size - (intOf i).toNat)
  case atStart => exact ⟨0, rfl, by omega, by simp⟩
  case round =>
    obtain ⟨k, rfl, hk, hd⟩ := hrel
    have HD := Lib.hid hd
    clear hd
    by_cases hlt : k < s.size
    · have HC := Lib.hid (drop_cons s k hlt)
      have HF := Lib.hid (fun W => line1_any s[k] W)
      cases hc : lineB s[k]
      · rw [hc] at HF
        have HN : Hid (runB lineB s.data.toList = k) := by
          unfold Hid; rw [HD.out, HC.out, runB_no hc]; rfl
        clear hc
        go_wp2_with (go_at_call 15; refine (HF.out _).mono ?_; rintro e w1 ⟨rfl, rfl⟩)
        go_ret
        exact ⟨ret_i (by rw [HN.out]), rfl⟩
      · rw [hc] at HF
        have HN : Hid (runB lineB s.data.toList = (k + 1) + runB lineB (s.data.toList.drop (k + 1))) := by
          unfold Hid; rw [HD.out, HC.out, runB_yes hc]; omega
        clear hc
        go_wp2_with (go_at_call 15; refine (HF.out _).mono ?_; rintro e w1 ⟨rfl, rfl⟩)
        go_round
        case rel => exact ⟨k + 1, by go_num, by omega, HN.out⟩
        case measure => simp [intOf]; omega
    · have HN : Hid (runB lineB s.data.toList = k) := by
        unfold Hid; rw [HD.out, List.drop_eq_nil_of_le (by rw [list_len]; omega)]; rfl
      go_wp2_with fail
      go_ret
      exact ⟨ret_i (by rw [HN.out]), rfl⟩
set_option maxHeartbeats 400000 in
theorem run_word (s : ByteArray) (w : World) (hs : s.size ≤ 1000000000000000001) :
    Calls Tryd.prog 11 #[.string s, .func (.func 18) #[] #[]] w fun e w' => e = .returned (.int .i64 (runB wordB s.data.toList)) ∧ w = w' := by
  go_enter Tryd.func11, Tryd.ntmps11
  go_wp2_with fail
  go_loop [5] (fun i => ∃ k : Nat, i = .int .i64 k ∧ k ≤ s.size ∧ runB wordB s.data.toList = k + runB wordB (s.data.toList.drop k)) (fun i => s.size - (intOf i).toNat)
  case atStart => exact ⟨0, rfl, by omega, by simp⟩
  case round =>
    obtain ⟨k, rfl, hk, hd⟩ := hrel
    have HD := Lib.hid hd
    clear hd
    by_cases hlt : k < s.size
    · have HC := Lib.hid (drop_cons s k hlt)
      have HF := Lib.hid (fun W => word1_any s[k] W)
      cases hc : wordB s[k]
      · rw [hc] at HF
        have HN : Hid (runB wordB s.data.toList = k) := by
          unfold Hid; rw [HD.out, HC.out, runB_no hc]; rfl
        clear hc
        go_wp2_with (go_at_call 18; refine (HF.out _).mono ?_; rintro e w1 ⟨rfl, rfl⟩)
        go_ret
        exact ⟨ret_i (by rw [HN.out]), rfl⟩
      · rw [hc] at HF
        have HN : Hid (runB wordB s.data.toList = (k + 1) + runB wordB (s.data.toList.drop (k + 1))) := by
          unfold Hid; rw [HD.out, HC.out, runB_yes hc]; omega
        clear hc
        go_wp2_with (go_at_call 18; refine (HF.out _).mono ?_; rintro e w1 ⟨rfl, rfl⟩)
        go_round
        case rel => exact ⟨k + 1, by go_num, by omega, HN.out⟩
        case measure => simp [intOf]; omega
    · have HN : Hid (runB wordB s.data.toList = k) := by
        unfold Hid; rw [HD.out, List.drop_eq_nil_of_le (by rw [list_len]; omega)]; rfl
      go_wp2_with fail
      go_ret
      exact ⟨ret_i (by rw [HN.out]), rfl⟩
set_option maxHeartbeats 400000 in
theorem run_dig (s : ByteArray) (w : World) (hs : s.size ≤ 1000000000000000001) :
    Calls Tryd.prog 11 #[.string s, .func (.func 19) #[] #[]] w fun e w' => e = .returned (.int .i64 (runB isD s.data.toList)) ∧ w = w' := by
  go_enter Tryd.func11, Tryd.ntmps11
  go_wp2_with fail
  go_loop [5] (fun i => ∃ k : Nat, i = .int .i64 k ∧ k ≤ s.size ∧ runB isD s.data.toList = k + runB isD (s.data.toList.drop k)) (fun i => s.size - (intOf i).toNat)
  case atStart => exact ⟨0, rfl, by omega, by simp⟩
  case round =>
    obtain ⟨k, rfl, hk, hd⟩ := hrel
    have HD := Lib.hid hd
    clear hd
    by_cases hlt : k < s.size
    · have HC := Lib.hid (drop_cons s k hlt)
      have HF := Lib.hid (fun W => dig1_any s[k] W)
      cases hc : isD s[k]
      · rw [hc] at HF
        have HN : Hid (runB isD s.data.toList = k) := by
          unfold Hid; rw [HD.out, HC.out, runB_no hc]; rfl
        clear hc
        go_wp2_with (go_at_call 19; refine (HF.out _).mono ?_; rintro e w1 ⟨rfl, rfl⟩)
        go_ret
        exact ⟨ret_i (by rw [HN.out]), rfl⟩
      · rw [hc] at HF
        have HN : Hid (runB isD s.data.toList = (k + 1) + runB isD (s.data.toList.drop (k + 1))) := by
          unfold Hid; rw [HD.out, HC.out, runB_yes hc]; omega
        clear hc
        go_wp2_with (go_at_call 19; refine (HF.out _).mono ?_; rintro e w1 ⟨rfl, rfl⟩)
        go_round
        case rel => exact ⟨k + 1, by go_num, by omega, HN.out⟩
        case measure => simp [intOf]; omega
    · have HN : Hid (runB isD s.data.toList = k) := by
        unfold Hid; rw [HD.out, List.drop_eq_nil_of_le (by rw [list_len]; omega)]; rfl
      go_wp2_with fail
      go_ret
      exact ⟨ret_i (by rw [HN.out]), rfl⟩
end Go.Proofs.YtjanpaallealgaaDoor.lex
