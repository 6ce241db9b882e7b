/-
  Proved: what powered returns. Conditions: as each theorem says.
-/
import Derived.Test.YtjanpaallealgaaDoorFlt8
import Derived.Test.YtjanpaallealgaaDoorFlt5
import Derived.Test.YtjanpaallealgaaDoorFlt7
namespace Go.Proofs.YtjanpaallealgaaDoor.flt
open Go.RowKit Ieee
open num (ret_pair ofDecV ofDecX ofDecE OfDec_any ofDec_no ofDec_yes)
set_option linter.unusedVariables false
set_option maxRecDepth 100000

def cutL (c : UInt8) : List UInt8 → List UInt8 × List UInt8 × Bool
  | [] => ([], [], false)
  | x :: r => if x = c then ([], r, true) else (x :: (cutL c r).1, (cutL c r).2.1, (cutL c r).2.2)
theorem cutL_cases (c : UInt8) (l : List UInt8) : (c ∉ l ∧ cutL c l = (l, [], false)) ∨ (∃ a b, c ∉ a ∧ l = a ++ c :: b ∧ cutL c l = (a, b, true)) := by
  induction l with
  | nil => exact .inl ⟨List.not_mem_nil, rfl⟩
  | cons x r ih =>
    by_cases h : x = c
    · exact .inr ⟨[], r, List.not_mem_nil, by rw [h]; rfl, by rw [cutL, if_pos h]⟩
    · rcases ih with ⟨h1, h2⟩ | ⟨a, b, h1, h2, h3⟩
      · left
        refine ⟨?_, by rw [cutL, if_neg h, h2]⟩
        rw [List.mem_cons, not_or]
        exact ⟨fun e => h e.symm, h1⟩
      · right
        refine ⟨x :: a, b, ?_, by rw [h2]; rfl, by rw [cutL, if_neg h, h3]⟩
        rw [List.mem_cons, not_or]
        exact ⟨fun e => h e.symm, h1⟩
theorem cutL_nil (c : UInt8) (l : List UInt8) : (cutL c l).2.2 = false → (cutL c l).2.1 = [] := by
  rcases cutL_cases c l with ⟨_, h⟩ | ⟨a, b, _, _, h⟩ <;> rw [h]
  · intro _; rfl
  · intro h; cases h
theorem cutL_len (c : UInt8) (l : List UInt8) : (cutL c l).1.length ≤ l.length ∧ (cutL c l).2.1.length ≤ l.length := by
  rcases cutL_cases c l with ⟨_, h⟩ | ⟨a, b, _, h2, h⟩ <;> rw [h]
  · simp
  · rw [h2]; simp
    omega
theorem Cut_any (c : UInt8) (l : List UInt8) (w : World) (hs : l.length ≤ 1000000000000000000) :
    Calls Tryd.prog 39 #[.string ⟨l.toArray⟩, .string ⟨#[c]⟩] w fun e w' => e = .returned (.tuple #[.string ⟨(cutL c l).1.toArray⟩, .string ⟨(cutL c l).2.1.toArray⟩, .bool (cutL c l).2.2]) ∧ Below w.heap.size w w' := by
  rcases cutL_cases c l with ⟨h1, h⟩ | ⟨a, b, h1, h2, h⟩ <;> rw [h]
  · exact Cut_no c l w h1 (by omega)
  · subst h2
    exact Cut_yes c a b w h1 (by omega)
/-- A float by a power of two, 0 too. -/
def ldz (a : Nat) (k : Int) : Nat := if a = 0 then 0 else ldx a k
theorem Ldexp_all (a : Nat) (k : Int) (w : World) (h : a < INF) (hk1 : -100000 ≤ k) (hk2 : k ≤ 100000) : Calls Tryd.prog 42 #[fv a, .int .i64 k] w fun e w' => e = .returned (fv (ldz a k)) ∧ w = w' := by
  unfold ldz
  by_cases h0 : a = 0
  · subst h0
    rw [if_pos rfl]
    exact Ldexp_zero k w
  · rw [if_neg h0]
    exact Ldexp_any a k w (Nat.pos_of_ne_zero h0) h hk1 hk2
theorem ldz_lt (a : Nat) (k : Int) (h : a < INF) : ldz a k ≤ INF := by
  unfold ldz
  split
  · unfold INF; omega
  · exact ldx_le a k (Nat.pos_of_ne_zero (by assumption)) h
theorem fl_lt (n : Nat) (h : n ≤ 9007199254740992) : fl n < INF := by
  rcases Nat.eq_zero_or_pos n with rfl | h0
  · rw [← zero_fl]; unfold INF; omega
  · exact (fl_pos n h0 h).1
/-- What powered reads. -/
def powR (f b : List UInt8) (pt : Bool) : Option Nat :=
  if pt then match ofDecV f, ofDecV (Lib.trimPrefix b [45]) with
    | some m, some k => if m ≤ 9007199254740992 ∧ k ≤ 2000 then some (ldz (fl m) (if Lib.hasPrefix b [45] then -(k : Int) else (k : Int))) else none
    | _, _ => none
  else none
def powOk (f b : List UInt8) (pt : Bool) : Bool := (powR f b pt).isSome
def powV (f b : List UInt8) (pt : Bool) : Nat := (powR f b pt).getD 0
theorem trim_len (b p : List UInt8) : (Lib.trimPrefix b p).length ≤ b.length := by
  unfold Lib.trimPrefix
  split
  · simp
  · exact Nat.le_refl _
set_option maxHeartbeats 1000000 in
theorem powered_any (S : ByteArray) (f b : List UInt8) (pt : Bool) (w : World) (hf : f.length ≤ maxLen) (hb : b.length ≤ maxLen)
    (HC : Hid (∀ W, Calls Tryd.prog 39 #[.string S, .string ⟨#[112]⟩] W fun e w' => e = .returned (.tuple #[.string ⟨f.toArray⟩, .string ⟨b.toArray⟩, .bool pt]) ∧ Below W.heap.size W w')) :
    Calls Tryd.prog 29 #[.string S] w fun e w' => e = .returned (.tuple #[fv (powV f b pt), .bool (powOk f b pt)]) ∧ Below w.heap.size w w' := by
  have ht := trim_len b [45]
  have HF := Lib.hid (fun W => OfDec_any ⟨f.toArray⟩ W (by rw [str_size]; exact hf))
  have HT := Lib.hid (fun W => OfDec_any ⟨(Lib.trimPrefix b [45]).toArray⟩ W (by rw [str_size]; omega))
  have HP := Lib.hid (fun W => Tryd.strings_HasPrefix ⟨b.toArray⟩ ⟨#[45]⟩ W)
  have HQ := Lib.hid (fun W => Tryd.strings_TrimPrefix ⟨b.toArray⟩ ⟨#[45]⟩ W)
  replace HF : Hid (∀ W, Calls Tryd.prog 28 #[.string ⟨f.toArray⟩] W fun e w' => e = .returned (.tuple #[.int .u64 (ofDecX f), .int .i64 (ofDecE f)]) ∧ W = w') := HF
  replace HT : Hid (∀ W, Calls Tryd.prog 28 #[.string ⟨(Lib.trimPrefix b [45]).toArray⟩] W fun e w' => e = .returned (.tuple #[.int .u64 (ofDecX (Lib.trimPrefix b [45])), .int .i64 (ofDecE (Lib.trimPrefix b [45]))]) ∧ W = w') := HT
  replace HP : Hid (∀ W, Calls Tryd.prog 14 #[.string ⟨b.toArray⟩, .string ⟨#[45]⟩] W fun e w' => e = .returned (.bool (Lib.hasPrefix b [45])) ∧ w' = W) := HP
  replace HQ : Hid (∀ W, Calls Tryd.prog 24 #[.string ⟨b.toArray⟩, .string ⟨#[45]⟩] W fun e w' => e = .returned (.string ⟨(Lib.trimPrefix b [45]).toArray⟩) ∧ w' = W) := HQ
  unfold powV powOk powR
  generalize Lib.trimPrefix b [45] = t at *
  generalize Lib.hasPrefix b [45] = hp at *
  clear hf hb ht
  generalize (⟨t.toArray⟩ : ByteArray) = T at *
  generalize (⟨f.toArray⟩ : ByteArray) = F at *
  generalize (⟨b.toArray⟩ : ByteArray) = B at *
  have HL : Hid True := trivial
  cases pt
  · clear HL
    go_enter Tryd.func29, Tryd.ntmps29
    go_wp2_with (first | (go_at_call 39; refine (HC.out _).mono ?_; rintro e w1 ⟨rfl, hb1⟩) | (go_at_call 14; refine (HP.out _).mono ?_; rintro e w2 ⟨rfl, rfl⟩) | (go_at_call 24; refine (HQ.out _).mono ?_; rintro e w2 ⟨rfl, rfl⟩) | (go_at_call 28; first | ((with_reducible refine (HF.out _).mono ?_); rintro e w2 ⟨rfl, rfl⟩) | ((with_reducible refine (HT.out _).mono ?_); rintro e w2 ⟨rfl, rfl⟩)))
    go_ret2
    exact ⟨rfl, hb1⟩
  · clear HL
    cases hm : ofDecV f with
    | none =>
      rw [(ofDec_no hm).1, (ofDec_no hm).2] at HF
      clear hm
      go_enter Tryd.func29, Tryd.ntmps29
      go_wp2_with (first | (go_at_call 39; refine (HC.out _).mono ?_; rintro e w1 ⟨rfl, hb1⟩) | (go_at_call 14; refine (HP.out _).mono ?_; rintro e w2 ⟨rfl, rfl⟩) | (go_at_call 24; refine (HQ.out _).mono ?_; rintro e w2 ⟨rfl, rfl⟩) | (go_at_call 28; first | ((with_reducible refine (HF.out _).mono ?_); rintro e w2 ⟨rfl, rfl⟩) | ((with_reducible refine (HT.out _).mono ?_); rintro e w2 ⟨rfl, rfl⟩)))
      go_ret2
      exact ⟨rfl, hb1⟩
    | some m =>
      rw [(ofDec_yes hm).1, (ofDec_yes hm).2] at HF
      cases hk : ofDecV t with
      | none =>
        rw [(ofDec_no hk).1, (ofDec_no hk).2] at HT
        clear hm hk
        go_enter Tryd.func29, Tryd.ntmps29
        go_wp2_with (first | (go_at_call 39; refine (HC.out _).mono ?_; rintro e w1 ⟨rfl, hb1⟩) | (go_at_call 14; refine (HP.out _).mono ?_; rintro e w2 ⟨rfl, rfl⟩) | (go_at_call 24; refine (HQ.out _).mono ?_; rintro e w2 ⟨rfl, rfl⟩) | (go_at_call 28; first | ((with_reducible refine (HF.out _).mono ?_); rintro e w2 ⟨rfl, rfl⟩) | ((with_reducible refine (HT.out _).mono ?_); rintro e w2 ⟨rfl, rfl⟩)))
        go_ret2
        exact ⟨rfl, hb1⟩
      | some k =>
        rw [(ofDec_yes hk).1, (ofDec_yes hk).2] at HT
        clear hm hk
        by_cases h1 : m ≤ 9007199254740992
        · by_cases h2 : k ≤ 2000
          · have hd1 : decide (9007199254740992 < (m : Int)) = false := decide_eq_false (by omega)
            have hd2 : decide (2000 < (k : Int)) = false := decide_eq_false (by omega)
            have hfm := floatOfInt_nat m
            have hlt := fl_lt m h1
            simp only [h1, h2, and_self, if_true, Option.isSome_some, Option.getD_some]
            cases hp
            · have HL := Lib.hid (fun W => Ldexp_all (fl m) (k : Int) W hlt (by omega) (by omega))
              simp only [Bool.false_eq_true, if_false]
              generalize fl m = x at *
              generalize ldz x (k : Int) = y at *
              clear hlt
              go_enter Tryd.func29, Tryd.ntmps29
              go_wp2_with (first | (go_at_call 39; refine (HC.out _).mono ?_; rintro e w1 ⟨rfl, hb1⟩) | (go_at_call 14; refine (HP.out _).mono ?_; rintro e w2 ⟨rfl, rfl⟩) | (go_at_call 24; refine (HQ.out _).mono ?_; rintro e w2 ⟨rfl, rfl⟩) | (go_at_call 28; first | ((with_reducible refine (HF.out _).mono ?_); rintro e w2 ⟨rfl, rfl⟩) | ((with_reducible refine (HT.out _).mono ?_); rintro e w2 ⟨rfl, rfl⟩)) | (go_at_call 42; refine (HL.out _).mono ?_; rintro e w2 ⟨rfl, rfl⟩))
              go_ret2
              exact ⟨rfl, hb1⟩
            · have HL := Lib.hid (fun W => Ldexp_all (fl m) (-(k : Int)) W hlt (by omega) (by omega))
              simp only [if_true]
              generalize fl m = x at *
              generalize ldz x (-(k : Int)) = y at *
              clear hlt
              go_enter Tryd.func29, Tryd.ntmps29
              go_wp2_with (first | (go_at_call 39; refine (HC.out _).mono ?_; rintro e w1 ⟨rfl, hb1⟩) | (go_at_call 14; refine (HP.out _).mono ?_; rintro e w2 ⟨rfl, rfl⟩) | (go_at_call 24; refine (HQ.out _).mono ?_; rintro e w2 ⟨rfl, rfl⟩) | (go_at_call 28; first | ((with_reducible refine (HF.out _).mono ?_); rintro e w2 ⟨rfl, rfl⟩) | ((with_reducible refine (HT.out _).mono ?_); rintro e w2 ⟨rfl, rfl⟩)) | (go_at_call 42; refine (HL.out _).mono ?_; rintro e w2 ⟨rfl, rfl⟩))
              go_ret2
              exact ⟨rfl, hb1⟩
          · have hd1 : decide (9007199254740992 < (m : Int)) = false := decide_eq_false (by omega)
            have hd2 : decide (2000 < (k : Int)) = true := decide_eq_true (by omega)
            simp only [h2, and_false, if_false, Option.isSome_none, Option.getD_none]
            clear h1 h2
            go_enter Tryd.func29, Tryd.ntmps29
            go_wp2_with (first | (go_at_call 39; refine (HC.out _).mono ?_; rintro e w1 ⟨rfl, hb1⟩) | (go_at_call 14; refine (HP.out _).mono ?_; rintro e w2 ⟨rfl, rfl⟩) | (go_at_call 24; refine (HQ.out _).mono ?_; rintro e w2 ⟨rfl, rfl⟩) | (go_at_call 28; first | ((with_reducible refine (HF.out _).mono ?_); rintro e w2 ⟨rfl, rfl⟩) | ((with_reducible refine (HT.out _).mono ?_); rintro e w2 ⟨rfl, rfl⟩)))
            go_ret2
            exact ⟨rfl, hb1⟩
        · have hd1 : decide (9007199254740992 < (m : Int)) = true := decide_eq_true (by omega)
          simp only [h1, false_and, if_false, Option.isSome_none, Option.getD_none]
          clear h1
          go_enter Tryd.func29, Tryd.ntmps29
          go_wp2_with (first | (go_at_call 39; refine (HC.out _).mono ?_; rintro e w1 ⟨rfl, hb1⟩) | (go_at_call 14; refine (HP.out _).mono ?_; rintro e w2 ⟨rfl, rfl⟩) | (go_at_call 24; refine (HQ.out _).mono ?_; rintro e w2 ⟨rfl, rfl⟩) | (go_at_call 28; first | ((with_reducible refine (HF.out _).mono ?_); rintro e w2 ⟨rfl, rfl⟩) | ((with_reducible refine (HT.out _).mono ?_); rintro e w2 ⟨rfl, rfl⟩)))
          go_ret2
          exact ⟨rfl, hb1⟩
/-! OfText -/
def decOkL (l : List UInt8) : Bool := decOk (cutL 46 l).1 (cutL 46 l).2.1 (cutL 46 l).2.2
def decVL (l : List UInt8) : Nat := decV (cutL 46 l).1 (cutL 46 l).2.1 (cutL 46 l).2.2
def powOkL (l : List UInt8) : Bool := powOk (cutL 112 l).1 (cutL 112 l).2.1 (cutL 112 l).2.2
def powVL (l : List UInt8) : Nat := powV (cutL 112 l).1 (cutL 112 l).2.1 (cutL 112 l).2.2
theorem decimal_all (l : List UInt8) (w : World) (hs : l.length ≤ 1000000000000000000) : Calls Tryd.prog 25 #[.string ⟨l.toArray⟩] w fun e w' => e = .returned (.tuple #[fv (decVL l), .bool (decOkL l)]) ∧ Below w.heap.size w w' :=
  decimal_any _ _ _ _ w (Nat.le_trans (cutL_len 46 l).1 hs) (Nat.le_trans (cutL_len 46 l).2 hs) (fun W => Cut_any 46 l W hs) (cutL_nil 46 l)
theorem powered_all (l : List UInt8) (w : World) (hs : l.length ≤ 1000000000000000000) : Calls Tryd.prog 29 #[.string ⟨l.toArray⟩] w fun e w' => e = .returned (.tuple #[fv (powVL l), .bool (powOkL l)]) ∧ Below w.heap.size w w' :=
  powered_any _ _ _ _ w (Nat.le_trans (cutL_len 112 l).1 (by unfold maxLen; omega)) (Nat.le_trans (cutL_len 112 l).2 (by unfold maxLen; omega)) (fun W => Cut_any 112 l W hs)
theorem decVL_lt (l : List UInt8) : decVL l < 18446744073709551616 := by
  unfold decVL decV decQ
  split
  · cases h : fop .quo _ _ with
    | none => simp
    | some r => exact fop_lt h
  · omega
theorem powVL_lt (l : List UInt8) : powVL l < 18446744073709551616 := by
  unfold powVL powV powR
  split
  · split
    · split
      · rename_i h
        exact Nat.lt_of_le_of_lt (ldz_lt _ _ (fl_lt _ h.1)) (by unfold INF; omega)
      · simp
    · simp
  · simp
end Go.Proofs.YtjanpaallealgaaDoor.flt
