/-
  Proved: what OfText returns. Conditions: as each theorem says.
-/
import Derived.Test.YtjanpaallealgaaDoorFlt9
namespace Go.Proofs.YtjanpaallealgaaDoor.flt
open Go.RowKit Ieee
open num (ret_pair ofDecV ofDecX ofDecE OfDec_any ofDec_no ofDec_yes)
set_option linter.unusedVariables false
set_option maxRecDepth 100000

/-- The text without its sign. -/
def bodyL (l : List UInt8) : List UInt8 := Lib.trimPrefix l [45]
def nanL : List UInt8 := [110, 97, 110]
def infL : List UInt8 := [105, 110, 102]
/-- What is read, and whether by a point or a power. -/
def bodyV (t : List UInt8) : Option (Nat × Bool) :=
  if decOkL t then some (decVL t, true) else if t = nanL then some (NANB, false) else if t = infL then some (9218868437227405312, false)
  else match ofDecV t with
    | some x => if x ≤ 9007199254740992 then some (fl x, false) else if powOkL t then some (powVL t, true) else none
    | none => if powOkL t then some (powVL t, true) else none
def signV (l : List UInt8) (a : Nat) : Nat := if (bodyL l).length < l.length then ng a else a
def ofT (l : List UInt8) : Option Nat := match bodyV (bodyL l) with
  | none => none
  | some (a, is) => if (!is || l.contains 112) && !((txt (signV l a)).data.toList == l) then none else some (signV l a)
/-! the paths -/
set_option maxHeartbeats 1000000 in
theorem of_dec (S T X : ByteArray) (a : Nat) (ha : a < 18446744073709551616) (nB cB eB : Bool)  (w : World) (HB : Hid (∀ W, Calls Tryd.prog 24 #[.string S, .string ⟨#[45]⟩] W fun e w' => e = .returned (.string T) ∧ W = w')) (HD : Hid (∀ W, Calls Tryd.prog 25 #[.string T] W fun e w' => e = .returned (.tuple #[fv a, .bool true]) ∧ Below W.heap.size W w')) (HCt : Hid (∀ W, Calls Tryd.prog 31 #[.string S, .string ⟨#[112]⟩] W fun e w' => e = .returned (.bool cB) ∧ W = w')) (HTx : Hid (∀ W, Calls Tryd.prog 30 #[fv (if nB then ng a else a)] W fun e w' => e = .returned (.string X) ∧ Below W.heap.size W w'))
    (hlt : decide (T.size < S.size) = nB) (hxs : (X.toList == S.toList) = eB) :
    Calls Tryd.prog 20 #[.string S] w fun e w' => e = .returned (if (cB && !eB) then .tuple #[fv 0, .int .i64 200] else .tuple #[fv (if nB then ng a else a), .int .i64 0]) ∧ Below w.heap.size w w' := by
  have hrn := fun W => run_neg (P := Tryd.prog) a W
  rw [neg_ng a ha] at hrn
  clear ha
  generalize ng a = b at *
  cases nB <;> cases cB <;> cases eB <;> simp only [Bool.false_eq_true, if_false, if_true, Bool.not_true, Bool.not_false, Bool.and_true, Bool.and_false, Bool.true_and, Bool.false_and] at HTx ⊢
  all_goals
    go_enter Tryd.func20, Tryd.ntmps20
    go_wp2_with (first | (go_at_call 24; refine (HB.out _).mono ?_; rintro e w1 ⟨rfl, rfl⟩) | (go_at_call 25; refine (HD.out _).mono ?_; rintro e w1 ⟨rfl, hb2⟩) | (go_at_call 31; refine (HCt.out _).mono ?_; rintro e w1 ⟨rfl, rfl⟩) | (go_at_call 30; refine (HTx.out _).mono ?_; rintro e w1 ⟨rfl, hb4⟩))
    go_ret2
    refine ⟨rfl, ?_⟩
    first
      | exact hb2
      | exact hb2.trans (hb4.mono hb2.size)

set_option maxHeartbeats 1000000 in
theorem of_nan (S T X : ByteArray) (a : Nat) (ha : a < 18446744073709551616) (nB eB : Bool) (d : Nat) (w : World) (HB : Hid (∀ W, Calls Tryd.prog 24 #[.string S, .string ⟨#[45]⟩] W fun e w' => e = .returned (.string T) ∧ W = w')) (HD : Hid (∀ W, Calls Tryd.prog 25 #[.string T] W fun e w' => e = .returned (.tuple #[fv d, .bool false]) ∧ Below W.heap.size W w')) (HTx : Hid (∀ W, Calls Tryd.prog 30 #[fv (if nB then ng a else a)] W fun e w' => e = .returned (.string X) ∧ Below W.heap.size W w')) (hn : (T.toList == [110, 97, 110]) = true) (hA : a = NANB)
    (hlt : decide (T.size < S.size) = nB) (hxs : (X.toList == S.toList) = eB) :
    Calls Tryd.prog 20 #[.string S] w fun e w' => e = .returned (if !eB then .tuple #[fv 0, .int .i64 200] else .tuple #[fv (if nB then ng a else a), .int .i64 0]) ∧ Below w.heap.size w w' := by
  have hrn := fun W => run_neg (P := Tryd.prog) a W
  rw [neg_ng a ha] at hrn
  clear ha
  subst hA
  unfold NANB at *
  generalize ng 9221120237041090561 = b at *
  cases nB <;> cases eB <;> simp only [Bool.false_eq_true, if_false, if_true, Bool.not_true, Bool.not_false, Bool.and_true, Bool.and_false, Bool.true_and, Bool.false_and] at HTx ⊢
  all_goals
    go_enter Tryd.func20, Tryd.ntmps20
    go_wp2_with (first | (go_at_call 24; refine (HB.out _).mono ?_; rintro e w1 ⟨rfl, rfl⟩) | (go_at_call 25; refine (HD.out _).mono ?_; rintro e w1 ⟨rfl, hb2⟩) | (go_at_call 30; refine (HTx.out _).mono ?_; rintro e w1 ⟨rfl, hb4⟩) | (go_at_call 26; refine (NaN_any _).mono ?_; rintro e w1 ⟨rfl, rfl⟩))
    go_ret2
    refine ⟨rfl, ?_⟩
    first
      | exact hb2
      | exact hb2.trans (hb4.mono hb2.size)

set_option maxHeartbeats 1000000 in
theorem of_inf (S T X : ByteArray) (a : Nat) (ha : a < 18446744073709551616) (nB eB : Bool) (d : Nat) (w : World) (HB : Hid (∀ W, Calls Tryd.prog 24 #[.string S, .string ⟨#[45]⟩] W fun e w' => e = .returned (.string T) ∧ W = w')) (HD : Hid (∀ W, Calls Tryd.prog 25 #[.string T] W fun e w' => e = .returned (.tuple #[fv d, .bool false]) ∧ Below W.heap.size W w')) (HTx : Hid (∀ W, Calls Tryd.prog 30 #[fv (if nB then ng a else a)] W fun e w' => e = .returned (.string X) ∧ Below W.heap.size W w')) (hn : (T.toList == [110, 97, 110]) = false) (hi : (T.toList == [105, 110, 102]) = true) (hA : a = 9218868437227405312)
    (hlt : decide (T.size < S.size) = nB) (hxs : (X.toList == S.toList) = eB) :
    Calls Tryd.prog 20 #[.string S] w fun e w' => e = .returned (if !eB then .tuple #[fv 0, .int .i64 200] else .tuple #[fv (if nB then ng a else a), .int .i64 0]) ∧ Below w.heap.size w w' := by
  have hrn := fun W => run_neg (P := Tryd.prog) a W
  rw [neg_ng a ha] at hrn
  clear ha
  subst hA
  generalize ng 9218868437227405312 = b at *
  cases nB <;> cases eB <;> simp only [Bool.false_eq_true, if_false, if_true, Bool.not_true, Bool.not_false, Bool.and_true, Bool.and_false, Bool.true_and, Bool.false_and] at HTx ⊢
  all_goals
    go_enter Tryd.func20, Tryd.ntmps20
    go_wp2_with (first | (go_at_call 24; refine (HB.out _).mono ?_; rintro e w1 ⟨rfl, rfl⟩) | (go_at_call 25; refine (HD.out _).mono ?_; rintro e w1 ⟨rfl, hb2⟩) | (go_at_call 30; refine (HTx.out _).mono ?_; rintro e w1 ⟨rfl, hb4⟩) | (go_at_call 27; refine (Inf_pos _).mono ?_; rintro e w1 ⟨rfl, rfl⟩))
    go_ret2
    refine ⟨rfl, ?_⟩
    first
      | exact hb2
      | exact hb2.trans (hb4.mono hb2.size)

set_option maxHeartbeats 1000000 in
theorem of_num (S T X : ByteArray) (a : Nat) (ha : a < 18446744073709551616) (nB eB : Bool) (d x : Nat) (xe : Int) (w : World) (HB : Hid (∀ W, Calls Tryd.prog 24 #[.string S, .string ⟨#[45]⟩] W fun e w' => e = .returned (.string T) ∧ W = w')) (HD : Hid (∀ W, Calls Tryd.prog 25 #[.string T] W fun e w' => e = .returned (.tuple #[fv d, .bool false]) ∧ Below W.heap.size W w')) (HTx : Hid (∀ W, Calls Tryd.prog 30 #[fv (if nB then ng a else a)] W fun e w' => e = .returned (.string X) ∧ Below W.heap.size W w')) (HO : Hid (∀ W, Calls Tryd.prog 28 #[.string T] W fun e w' => e = .returned (.tuple #[.int .u64 (x : Nat), .int .i64 xe]) ∧ W = w')) (hn : (T.toList == [110, 97, 110]) = false) (hi : (T.toList == [105, 110, 102]) = false) (hx : x ≤ 9007199254740992) (hxe : xe = 0) (hA : a = fl x)
    (hlt : decide (T.size < S.size) = nB) (hxs : (X.toList == S.toList) = eB) :
    Calls Tryd.prog 20 #[.string S] w fun e w' => e = .returned (if !eB then .tuple #[fv 0, .int .i64 200] else .tuple #[fv (if nB then ng a else a), .int .i64 0]) ∧ Below w.heap.size w w' := by
  have hrn := fun W => run_neg (P := Tryd.prog) a W
  rw [neg_ng a ha] at hrn
  clear ha
  subst hxe
  subst hA
  have hfm := floatOfInt_nat x
  have hdx : decide ((x : Int) ≤ 9007199254740992) = true := decide_eq_true (by omega)
  generalize fl x = a at *
  generalize ng a = b at *
  cases nB <;> cases eB <;> simp only [Bool.false_eq_true, if_false, if_true, Bool.not_true, Bool.not_false, Bool.and_true, Bool.and_false, Bool.true_and, Bool.false_and] at HTx ⊢
  all_goals
    go_enter Tryd.func20, Tryd.ntmps20
    go_wp2_with (first | (go_at_call 24; refine (HB.out _).mono ?_; rintro e w1 ⟨rfl, rfl⟩) | (go_at_call 25; refine (HD.out _).mono ?_; rintro e w1 ⟨rfl, hb2⟩) | (go_at_call 30; refine (HTx.out _).mono ?_; rintro e w1 ⟨rfl, hb4⟩) | (go_at_call 28; refine (HO.out _).mono ?_; rintro e w1 ⟨rfl, rfl⟩))
    go_ret2
    refine ⟨rfl, ?_⟩
    first
      | exact hb2
      | exact hb2.trans (hb4.mono hb2.size)

set_option maxHeartbeats 1000000 in
theorem of_pow (S T X : ByteArray) (a : Nat) (ha : a < 18446744073709551616) (nB cB eB : Bool) (d x : Nat) (xe : Int) (w : World) (HB : Hid (∀ W, Calls Tryd.prog 24 #[.string S, .string ⟨#[45]⟩] W fun e w' => e = .returned (.string T) ∧ W = w')) (HD : Hid (∀ W, Calls Tryd.prog 25 #[.string T] W fun e w' => e = .returned (.tuple #[fv d, .bool false]) ∧ Below W.heap.size W w')) (HCt : Hid (∀ W, Calls Tryd.prog 31 #[.string S, .string ⟨#[112]⟩] W fun e w' => e = .returned (.bool cB) ∧ W = w')) (HTx : Hid (∀ W, Calls Tryd.prog 30 #[fv (if nB then ng a else a)] W fun e w' => e = .returned (.string X) ∧ Below W.heap.size W w')) (HO : Hid (∀ W, Calls Tryd.prog 28 #[.string T] W fun e w' => e = .returned (.tuple #[.int .u64 (x : Nat), .int .i64 xe]) ∧ W = w')) (HP : Hid (∀ W, Calls Tryd.prog 29 #[.string T] W fun e w' => e = .returned (.tuple #[fv a, .bool true]) ∧ Below W.heap.size W w')) (hn : (T.toList == [110, 97, 110]) = false) (hi : (T.toList == [105, 110, 102]) = false) (hx : ((xe == 0) = false) ∨ (xe = 0 ∧ ¬ x ≤ 9007199254740992))
    (hlt : decide (T.size < S.size) = nB) (hxs : (X.toList == S.toList) = eB) :
    Calls Tryd.prog 20 #[.string S] w fun e w' => e = .returned (if (cB && !eB) then .tuple #[fv 0, .int .i64 200] else .tuple #[fv (if nB then ng a else a), .int .i64 0]) ∧ Below w.heap.size w w' := by
  have hrn := fun W => run_neg (P := Tryd.prog) a W
  rw [neg_ng a ha] at hrn
  clear ha
  have hx2 : (xe == 0) = false ∨ ((xe == 0) = true ∧ decide ((x : Int) ≤ 9007199254740992) = false) := by
    rcases hx with h | ⟨h1, h2⟩
    · exact .inl h
    · exact .inr ⟨by rw [h1]; rfl, decide_eq_false (by omega)⟩
  clear hx
  rcases hx2 with hx2 | ⟨hx2, hx3⟩
  all_goals
   generalize ng a = b at *
   cases nB <;> cases cB <;> cases eB <;> simp only [Bool.false_eq_true, if_false, if_true, Bool.not_true, Bool.not_false, Bool.and_true, Bool.and_false, Bool.true_and, Bool.false_and] at HTx ⊢
   all_goals
    go_enter Tryd.func20, Tryd.ntmps20
    go_wp2_with (first | (go_at_call 24; refine (HB.out _).mono ?_; rintro e w1 ⟨rfl, rfl⟩) | (go_at_call 25; refine (HD.out _).mono ?_; rintro e w1 ⟨rfl, hb2⟩) | (go_at_call 30; refine (HTx.out _).mono ?_; rintro e w1 ⟨rfl, hb4⟩) | (go_at_call 28; refine (HO.out _).mono ?_; rintro e w1 ⟨rfl, rfl⟩) | (go_at_call 31; refine (HCt.out _).mono ?_; rintro e w1 ⟨rfl, rfl⟩) | (go_at_call 29; refine (HP.out _).mono ?_; rintro e w1 ⟨rfl, hb3⟩))
    go_ret2
    refine ⟨rfl, ?_⟩
    first
      | exact hb2.trans (hb3.mono hb2.size)
      | exact (hb2.trans (hb3.mono hb2.size)).trans (hb4.mono (Nat.le_trans hb2.size hb3.size))

theorem of_fail (S T : ByteArray) (a d x : Nat) (xe : Int) (w : World) (HB : Hid (∀ W, Calls Tryd.prog 24 #[.string S, .string ⟨#[45]⟩] W fun e w' => e = .returned (.string T) ∧ W = w')) (HD : Hid (∀ W, Calls Tryd.prog 25 #[.string T] W fun e w' => e = .returned (.tuple #[fv d, .bool false]) ∧ Below W.heap.size W w')) (HO : Hid (∀ W, Calls Tryd.prog 28 #[.string T] W fun e w' => e = .returned (.tuple #[.int .u64 (x : Nat), .int .i64 xe]) ∧ W = w')) (HP : Hid (∀ W, Calls Tryd.prog 29 #[.string T] W fun e w' => e = .returned (.tuple #[fv a, .bool false]) ∧ Below W.heap.size W w')) (hn : (T.toList == [110, 97, 110]) = false) (hi : (T.toList == [105, 110, 102]) = false) (hx : ((xe == 0) = false) ∨ (xe = 0 ∧ ¬ x ≤ 9007199254740992)) :
    Calls Tryd.prog 20 #[.string S] w fun e w' => e = .returned (.tuple #[fv 0, .int .i64 200]) ∧ Below w.heap.size w w' := by
  have hx2 : (xe == 0) = false ∨ ((xe == 0) = true ∧ decide ((x : Int) ≤ 9007199254740992) = false) := by
    rcases hx with h | ⟨h1, h2⟩
    · exact .inl h
    · exact .inr ⟨by rw [h1]; rfl, decide_eq_false (by omega)⟩
  clear hx
  rcases hx2 with hx2 | ⟨hx2, hx3⟩
  all_goals
    go_enter Tryd.func20, Tryd.ntmps20
    go_wp2_with (first | (go_at_call 24; refine (HB.out _).mono ?_; rintro e w1 ⟨rfl, rfl⟩) | (go_at_call 25; refine (HD.out _).mono ?_; rintro e w1 ⟨rfl, hb2⟩) | (go_at_call 28; refine (HO.out _).mono ?_; rintro e w1 ⟨rfl, rfl⟩) | (go_at_call 29; refine (HP.out _).mono ?_; rintro e w1 ⟨rfl, hb3⟩))
    go_ret2
    exact ⟨rfl, hb2.trans (hb3.mono hb2.size)⟩
theorem index_contains (l : List UInt8) : decide (0 ≤ Lib.indexByte l 112) = l.contains 112 := by
  by_cases h : (112 : UInt8) ∈ l
  · rcases cutL_cases 112 l with ⟨h1, _⟩ | ⟨a, b, h1, h2, _⟩
    · exact absurd h h1
    · rw [h2, index_yes h1, decide_eq_true (by omega)]
      symm
      rw [List.contains_iff_mem]
      simp
  · rw [index_no h]
    symm
    have : ¬ l.contains 112 = true := by rw [List.contains_iff_mem]; exact h
    simpa using this
def ofE (l : List UInt8) : Value := match ofT l with
  | some a => .tuple #[fv a, .int .i64 0]
  | none => .tuple #[fv 0, .int .i64 200]
theorem if_signV (l : List UInt8) (a : Nat) : (if decide ((bodyL l).length < l.length) then ng a else a) = signV l a := by
  unfold signV
  by_cases h : (bodyL l).length < l.length
  · rw [if_pos h, decide_eq_true h, if_pos rfl]
  · rw [if_neg h, decide_eq_false h, if_neg Bool.false_ne_true]
theorem nanb_lt : NANB < 18446744073709551616 := by unfold NANB; decide
theorem infb_lt : (9218868437227405312 : Nat) < 18446744073709551616 := by decide
theorem fl64 (x : Nat) (h : x ≤ 9007199254740992) : fl x < 18446744073709551616 := Nat.lt_trans (fl_lt x h) infb_lt
theorem some_lt {a b : Nat} {is js : Bool} (h : some (b, js) = some (a, is)) (hb : b < 18446744073709551616) : a < 18446744073709551616 := by
  have := Option.some.inj h
  rw [← (Prod.mk.inj this).1]
  exact hb
theorem bodyV_lt {t : List UInt8} {a : Nat} {is : Bool} (h : bodyV t = some (a, is)) : a < 18446744073709551616 := by
  unfold bodyV at h
  split at h
  · exact some_lt h (decVL_lt t)
  · split at h
    · exact some_lt h nanb_lt
    · split at h
      · exact some_lt h infb_lt
      · split at h
        · split at h
          · rename_i hx; exact some_lt h (fl64 _ hx)
          · split at h
            · exact some_lt h (powVL_lt t)
            · cases h
        · split at h
          · exact some_lt h (powVL_lt t)
          · cases h
theorem OfText_any (l : List UInt8) (w : World) (hs : l.length ≤ 1000000000000000000) :
    Calls Tryd.prog 20 #[.string ⟨l.toArray⟩] w fun e w' => e = .returned (ofE l) ∧ Below w.heap.size w w' := by
  have hbl : (bodyL l).length ≤ l.length := trim_len l [45]
  have HB : Hid (∀ W, Calls Tryd.prog 24 #[.string ⟨l.toArray⟩, .string ⟨#[45]⟩] W fun e w' => e = .returned (.string ⟨(bodyL l).toArray⟩) ∧ W = w') :=
    fun W => (Tryd.strings_TrimPrefix ⟨l.toArray⟩ ⟨#[45]⟩ W).mono fun e w' ⟨h1, h2⟩ => ⟨h1, h2.symm⟩
  have HCt : Hid (∀ W, Calls Tryd.prog 31 #[.string ⟨l.toArray⟩, .string ⟨#[112]⟩] W fun e w' => e = .returned (.bool (l.contains 112)) ∧ W = w') :=
    fun W => (Tryd.strings_Contains_one ⟨l.toArray⟩ 112 W).mono fun e w' ⟨h1, h2⟩ => ⟨h1.trans (by rw [← index_contains l]), h2.symm⟩
  have HD := Lib.hid (fun W => decimal_all (bodyL l) W (Nat.le_trans hbl hs))
  have HO : Hid (∀ W, Calls Tryd.prog 28 #[.string ⟨(bodyL l).toArray⟩] W fun e w' => e = .returned (.tuple #[.int .u64 (ofDecX (bodyL l)), .int .i64 (ofDecE (bodyL l))]) ∧ W = w') :=
    fun W => OfDec_any ⟨(bodyL l).toArray⟩ W (by rw [str_size]; unfold maxLen; omega)
  have HP := Lib.hid (fun W => powered_all (bodyL l) W (Nat.le_trans hbl hs))
  have hlt : decide ((⟨(bodyL l).toArray⟩ : ByteArray).size < (⟨l.toArray⟩ : ByteArray).size) = decide ((bodyL l).length < l.length) := by rw [str_size, str_size]
  have HTx : ∀ a, a < 18446744073709551616 → Hid (∀ W, Calls Tryd.prog 30 #[fv (if decide ((bodyL l).length < l.length) then ng a else a)] W fun e w' => e = .returned (.string (txt (signV l a))) ∧ Below W.heap.size W w') := by
    intro a ha W
    rw [if_signV]
    refine Text_any _ W ?_
    unfold signV
    split
    · exact ng_lt a ha
    · exact ha
  have hxs : ∀ X : ByteArray, (X.toList == (⟨l.toArray⟩ : ByteArray).toList) = (X.data.toList == l) := fun X => by rw [Lib.toList_data, Lib.toList_data]
  have hT : ∀ k : List UInt8, ((⟨(bodyL l).toArray⟩ : ByteArray).toList == k) = decide (bodyL l = k) := fun k => by rw [Lib.toList_data]; rw [Bool.eq_iff_iff, beq_iff_eq, decide_eq_true_iff]
  have fin2 : ∀ (a : Nat) (bad : Bool), ((if bad then Value.tuple #[fv 0, .int .i64 200] else .tuple #[fv (if decide ((bodyL l).length < l.length) then ng a else a), .int .i64 0])) = (match (if bad then none else some (signV l a)) with | some a => Value.tuple #[fv a, .int .i64 0] | none => .tuple #[fv 0, .int .i64 200]) := by
    intro a bad
    rw [if_signV]
    cases bad <;> rfl
  have hE : ∀ (a : Nat) (is : Bool), bodyV (bodyL l) = some (a, is) → ofE l = (match (if ((!is || l.contains 112) && !((txt (signV l a)).data.toList == l)) then none else some (signV l a)) with | some a => Value.tuple #[fv a, .int .i64 0] | none => .tuple #[fv 0, .int .i64 200]) := by
    intro a is h
    unfold ofE ofT
    rw [h]
  cases hd : decOkL (bodyL l)
  · rw [hd] at HD
    by_cases hn : bodyL l = nanL
    · have hb : bodyV (bodyL l) = some (NANB, false) := by unfold bodyV; rw [hd, if_neg Bool.false_ne_true, if_pos hn]
      have := of_nan _ _ _ NANB (bodyV_lt hb) _ _ _ w HB HD (HTx NANB (bodyV_lt hb)) (by rw [hT]; exact decide_eq_true hn) rfl hlt (hxs _)
      refine this.mono fun e w' h => ⟨h.1.trans ?_, h.2⟩
      rw [fin2, hE _ _ hb, Bool.not_false, Bool.true_or, Bool.true_and]
    · by_cases hi : bodyL l = infL
      · have hb : bodyV (bodyL l) = some (9218868437227405312, false) := by unfold bodyV; rw [hd, if_neg Bool.false_ne_true, if_neg hn, if_pos hi]
        have := of_inf _ _ _ 9218868437227405312 (bodyV_lt hb) _ _ _ w HB HD (HTx _ (bodyV_lt hb)) (by rw [hT]; exact decide_eq_false hn) (by rw [hT]; exact decide_eq_true hi) rfl hlt (hxs _)
        refine this.mono fun e w' h => ⟨h.1.trans ?_, h.2⟩
        rw [fin2, hE _ _ hb, Bool.not_false, Bool.true_or, Bool.true_and]
      · have sn : ((⟨(bodyL l).toArray⟩ : ByteArray).toList == [110, 97, 110]) = false := by rw [hT]; exact decide_eq_false hn
        have si : ((⟨(bodyL l).toArray⟩ : ByteArray).toList == [105, 110, 102]) = false := by rw [hT]; exact decide_eq_false hi
        have hpow : ∀ (hx : ((ofDecE (bodyL l) == 0) = false) ∨ (ofDecE (bodyL l) = 0 ∧ ¬ ofDecX (bodyL l) ≤ 9007199254740992)) (hb : bodyV (bodyL l) = if powOkL (bodyL l) then some (powVL (bodyL l), true) else none), Calls Tryd.prog 20 #[.string ⟨l.toArray⟩] w fun e w' => e = .returned (ofE l) ∧ Below w.heap.size w w' := by
          intro hx hb
          cases hp : powOkL (bodyL l)
          · rw [hp] at HP
            rw [hp, if_neg Bool.false_ne_true] at hb
            refine (of_fail _ _ _ _ _ _ w HB HD HO HP sn si hx).mono fun e w' h => ⟨h.1.trans ?_, h.2⟩
            unfold ofE ofT
            rw [hb]
          · rw [hp] at HP
            rw [hp, if_pos rfl] at hb
            refine (of_pow _ _ _ _ (bodyV_lt hb) _ _ _ _ _ _ w HB HD HCt (HTx _ (bodyV_lt hb)) HO HP sn si hx hlt (hxs _)).mono fun e w' h => ⟨h.1.trans ?_, h.2⟩
            rw [fin2, hE _ _ hb, Bool.not_true, Bool.false_or]
        cases ho : ofDecV (bodyL l) with
        | none =>
          refine hpow (.inl (by rw [(ofDec_no ho).2]; rfl)) ?_
          unfold bodyV
          rw [hd, if_neg Bool.false_ne_true, if_neg hn, if_neg hi, ho]
        | some x =>
          by_cases hx : x ≤ 9007199254740992
          · have hb : bodyV (bodyL l) = some (fl x, false) := by
              unfold bodyV
              rw [hd, if_neg Bool.false_ne_true, if_neg hn, if_neg hi, ho]
              simp only [hx, if_true]
            have e1 := (ofDec_yes ho).1
            have e2 := (ofDec_yes ho).2
            refine (of_num _ _ _ (fl x) (bodyV_lt hb) _ _ _ x _ w HB HD (HTx _ (bodyV_lt hb)) (by rw [← e1]; exact HO) sn si hx e2 rfl hlt (hxs _)).mono fun e w' h => ⟨h.1.trans ?_, h.2⟩
            rw [fin2, hE _ _ hb, Bool.not_false, Bool.true_or, Bool.true_and]
          · refine hpow (.inr ⟨(ofDec_yes ho).2, by rw [(ofDec_yes ho).1]; exact hx⟩) ?_
            unfold bodyV
            rw [hd, if_neg Bool.false_ne_true, if_neg hn, if_neg hi, ho]
            simp only [hx, if_false]
  · rw [hd] at HD
    have hb : bodyV (bodyL l) = some (decVL (bodyL l), true) := by unfold bodyV; rw [hd, if_pos rfl]
    refine (of_dec _ _ _ _ (bodyV_lt hb) _ _ _ w HB HD HCt (HTx _ (bodyV_lt hb)) hlt (hxs _)).mono fun e w' h => ⟨h.1.trans ?_, h.2⟩
    rw [fin2, hE _ _ hb, Bool.not_true, Bool.false_or]
end Go.Proofs.YtjanpaallealgaaDoor.flt
