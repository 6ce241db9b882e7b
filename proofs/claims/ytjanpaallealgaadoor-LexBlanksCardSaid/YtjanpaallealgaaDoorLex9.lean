/-
  Proved: what a scanner's token returns, at every place of every text. Conditions: as each theorem says.
-/
import Derived.Test.YtjanpaallealgaaDoorLex6
import Derived.Test.YtjanpaallealgaaDoorLex7
import Derived.Test.YtjanpaallealgaaDoorLex8
import Derived.Lib.SmallJoins
namespace Go.Proofs.YtjanpaallealgaaDoor.lex
open Go.RowKit
open flt (isD fv ofT ofE OfText_any str_size)
open heap
open num (list_len drop_cons ret_pair bcell)
set_option linter.unusedVariables false
set_option maxRecDepth 100000

/-- What token returns at a place with t ahead. -/
def tokV (s : ByteArray) (a : Nat) (t : List UInt8) : Value := if t = [] then .tuple #[tkV 0 ⟨#[]⟩ 0 a, scV s a, .int .i64 0] else match tok t with
  | .error e => .tuple #[tkV 0 ⟨#[]⟩ 0 a, scV s a, .int .i64 e]
  | .ok x => .tuple #[tkV x.1 ⟨x.2.1.toArray⟩ x.2.2.1 a, scV s ((a + x.2.2.2 : Nat) : Int), .int .i64 0]
theorem tokV_bad {s : ByteArray} {a : Nat} {t : List UInt8} {e : Int} (h : t ≠ []) (ht : tok t = .error e) : tokV s a t = .tuple #[tkV 0 ⟨#[]⟩ 0 a, scV s a, .int .i64 e] := by
  unfold tokV; rw [if_neg h, ht]
theorem tokV_ok {s : ByteArray} {a : Nat} {t u : List UInt8} {k : Int} {x n : Nat} (h : t ≠ []) (ht : tok t = .ok (k, u, x, n)) : tokV s a t = .tuple #[tkV k ⟨u.toArray⟩ x a, scV s ((a + n : Nat) : Int), .int .i64 0] := by
  unfold tokV; rw [if_neg h, ht]
theorem ext_take (R : ByteArray) (n : Nat) : R.extract 0 n = ⟨(R.data.toList.take n).toArray⟩ := by
  apply ByteArray.ext
  apply Array.toList_inj.1
  rw [ByteArray.data_extract, Array.toList_extract, List.extract_eq_take_drop]
  simp
theorem pre_one (c x : UInt8) (r : List UInt8) : Lib.hasPrefix (c :: r) [x] = (x == c) := by
  unfold Lib.hasPrefix
  simp [List.isPrefixOf]
theorem find_one (c : UInt8) (r : List UInt8) (xs : List UInt8) : (xs.map fun x => [x]).find? (fun g => Lib.hasPrefix (c :: r) g) = if xs.contains c then some [c] else none := by
  induction xs with
  | nil => rfl
  | cons x q ih =>
    rw [List.map_cons, List.find?_cons, pre_one]
    by_cases h : x = c
    · subst h; simp
    · have h1 : (x == c) = false := beq_eq_false_iff_ne.2 h
      rw [h1]
      simp only [ih, List.contains_cons]
      have h2 : (c == x) = false := beq_eq_false_iff_ne.2 (fun e => h e.symm)
      rw [h2, Bool.false_or]
theorem sig_tok (s : ByteArray) (a : Nat) (t : List UInt8) (h : t ≠ []) (hl : letB (t.getD 0 0) = false) (hd : isD (t.getD 0 0) = false) (hq : t.getD 0 0 ≠ 34) : sigV s a t = tokV s a t := by
  cases t with
  | nil => exact absurd rfl h
  | cons c r =>
    have hl' : letB c = false := hl
    have hd' : isD c = false := hd
    have hq' : c ≠ 34 := hq
    have ht : tok (c :: r) = if c = 61 ∧ 1 < (c :: r).length ∧ (c :: r).getD 1 0 = 61 then .ok (4, [61, 61], 0, 2) else if signB c then .ok (4, [c], 0, 1) else .error 1800 := by
      unfold tok
      show (if letB c = true then _ else if isD c = true then _ else if c = 34 then _ else if c = 61 ∧ 1 < (c :: r).length ∧ (c :: r).getD 1 0 = 61 then (Except.ok (4, [61, 61], 0, 2) : Except Int _) else if signB c then .ok (4, [c], 0, 1) else .error 1800) = _
      rw [hl', hd', if_neg Bool.false_ne_true, if_neg Bool.false_ne_true, if_neg hq']
    have hp : Lib.hasPrefix (c :: r) [61, 61] = decide (c = 61 ∧ 1 < (c :: r).length ∧ (c :: r).getD 1 0 = 61) := by
      unfold Lib.hasPrefix
      cases r with
      | nil => simp [List.isPrefixOf]
      | cons d q =>
        simp only [List.isPrefixOf, Bool.and_true]
        rw [Bool.eq_iff_iff]
        simp only [Bool.and_eq_true, beq_iff_eq, decide_eq_true_eq, List.length_cons]
        constructor
        · rintro ⟨rfl, rfl⟩; exact ⟨rfl, by omega, rfl⟩
        · rintro ⟨rfl, -, h3⟩; exact ⟨rfl, (show d = 61 from h3).symm⟩
    have hS : signsL = [61, 61] :: ([123, 125, 40, 41, 59, 44, 61, 60, 43, 45, 42, 47, 37, 38, 33].map fun x => [x]) := rfl
    unfold sigV tokV
    rw [if_neg h, ht, hS, List.find?_cons, hp]
    by_cases h2 : c = 61 ∧ 1 < (c :: r).length ∧ (c :: r).getD 1 0 = 61
    · rw [decide_eq_true h2, if_pos h2]; rfl
    · rw [decide_eq_false h2, if_neg h2]
      simp only [find_one]
      by_cases h3 : signB c = true
      · rw [if_pos (show List.contains [123, 125, 40, 41, 59, 44, 61, 60, 43, 45, 42, 47, 37, 38, 33] c = true from h3), if_pos h3]; rfl
      · rw [if_neg (show ¬ List.contains [123, 125, 40, 41, 59, 44, 61, 60, 43, 45, 42, 47, 37, 38, 33] c = true from h3), if_neg h3]
theorem tok_name {t : List UInt8} (hl : letB (t.getD 0 0) = true) : tok t = if 32 < runB wordB t then .error 1800 else .ok (1, t.take (runB wordB t), 0, runB wordB t) := by
  unfold tok; rw [if_pos hl]
theorem tok_num {t : List UInt8} (hl : letB (t.getD 0 0) = false) (hd : isD (t.getD 0 0) = true) : tok t = match ofT (t.take (numEnd t)) with
    | none => .error 1802
    | some x => if decide (numEnd t < t.length) && (letB (t.getD (numEnd t) 0) || t.getD (numEnd t) 0 == 46) then .error 1802 else .ok (2, t.take (numEnd t), x, numEnd t) := by
  unfold tok; rw [if_neg (by rw [hl]; exact Bool.false_ne_true), if_pos hd]; rfl
theorem tok_str {t : List UInt8} (hl : letB (t.getD 0 0) = false) (hd : isD (t.getD 0 0) = false) (hq : t.getD 0 0 = 34) : tok t = match qtS false (t.drop 1) with
    | none => .error 1801
    | some x => if 1024 < x.1.length then .error 1801 else .ok (3, x.1, 0, x.2 + 1) := by
  unfold tok; rw [if_neg (by rw [hl]; exact Bool.false_ne_true), if_neg (by rw [hd]; exact Bool.false_ne_true), if_pos hq]; rfl
theorem tab_below {w W : World} (h : Lib.TabIs Tryd.prog w "strings.asciiSpace" .u8 Lib.asciiSpaceTab) (hb : Below w.heap.size w W) : Lib.TabIs Tryd.prog W "strings.asciiSpace" .u8 Lib.asciiSpaceTab := by
  obtain ⟨g, hg⟩ : ∃ g, (Tryd.prog).globalNamed "strings.asciiSpace" = some g := by
    cases hg : (Tryd.prog).globalNamed "strings.asciiSpace" with
    | none => unfold Lib.TabIs World.var? at h; simp [hg] at h
    | some g => exact ⟨g, rfl⟩
  exact Go.Joins.tab_stays hg h hb (Nat.le_refl _)
theorem fields_signs (W : World) (htab : Lib.TabIs Tryd.prog W "strings.asciiSpace" .u8 Lib.asciiSpaceTab) :
    Calls Tryd.prog 22 #[.string signsT] W fun e w' => e = .returned (.slice (some ⟨W.heap.size, 0, none⟩) 16 16) ∧ SgAt w' W.heap.size ∧ Below W.heap.size W w' := by
  have hasc : ∀ (j : Nat) b, signsT.data.toList[j]? = some b → b.toNat < 128 := by
    intro j b hb
    have h2 : ∀ q ∈ signsT.data.toList, q.toNat < 128 := by decide
    exact h2 b (List.mem_of_getElem? hb)
  refine (Tryd.strings_Fields_laid signsT W (by decide) hasc htab).mono ?_
  rintro e w' ⟨rfl, rfl⟩
  rw [signs_fields]
  exact ⟨rfl, blk_new _ _, (Below.refl _ _).alloc (Nat.le_refl _) _⟩
set_option maxHeartbeats 1000000 in
theorem token_any (s : ByteArray) (a : Nat) (w : World) (ha : a ≤ s.size) (hs : s.size ≤ 1000000000) (htab : Lib.TabIs Tryd.prog w "strings.asciiSpace" .u8 Lib.asciiSpaceTab) :
    Calls Tryd.prog 10 #[scV s a] w fun e w' => e = .returned (tokV s a (s.data.toList.drop a)) ∧ Below w.heap.size w w' := by
  have HR : Hid (∀ W, Calls Tryd.prog 12 #[scV s a] W fun e w' => e = .returned (.string (s.extract a s.size)) ∧ Below W.heap.size W w') := fun W => rest_any s a W ha (by omega)
  have hRL := ext_list s a
  have hRS := ext_size s a ha
  generalize s.extract a s.size = R at HR hRL hRS
  rw [← hRL]
  have hlen := list_len R
  by_cases he : R.data.toList = []
  · rw [show tokV s a R.data.toList = .tuple #[tkV 0 ⟨#[]⟩ 0 a, scV s a, .int .i64 0] from if_pos he]
    exact tk_end s R a w (by rw [ByteArray.toList_eq]; exact he) HR
  · have h0 : 0 < R.size := by rw [← hlen]; exact List.length_pos_iff.2 he
    have hE : R.toList.isEmpty = false := by
      rw [ByteArray.toList_eq]
      cases hh : R.data.toList with
      | nil => exact absurd hh he
      | cons _ _ => rfl
    have hz : R.size ≤ 1000000000 := by omega
    have hab : a + R.size ≤ 2000000000 := by omega
    have hg : ∀ i (h : i < R.size), R.data.toList.getD i 0 = R[i] := by
      intro i h
      rw [List.getD_eq_getElem?_getD, List.getElem?_eq_getElem (by rw [hlen]; exact h)]
      rfl
    have ht0 := hg 0 h0
    have HL : Hid (∀ W, Calls Tryd.prog 17 #[.int .u8 (R[0].toNat : Int)] W fun e w' => e = .returned (.bool (letB R[0])) ∧ W = w') := fun W => let1_any R[0] W
    have HD : Hid (∀ W, Calls Tryd.prog 19 #[.int .u8 (R[0].toNat : Int)] W fun e w' => e = .returned (.bool (isD R[0])) ∧ W = w') := fun W => dig1_any R[0] W
    generalize hLl : R.data.toList = L at *
    cases hl : letB R[0] with
    | true =>
      rw [hl] at HL
      have hn : runB wordB L ≤ R.size := by rw [← hlen]; exact runB_le _ _
      have HN : Hid (∀ W, Calls Tryd.prog 11 #[.string R, .func (.func 18) #[] #[]] W fun e w' => e = .returned (.int .i64 (runB wordB L)) ∧ W = w') := fun W => by
        have := run_word R W (by omega)
        rw [hLl] at this; exact this
      have ht := tok_name (t := L) (by rw [ht0]; exact hl)
      by_cases h32 : 32 < runB wordB L
      · rw [if_pos h32] at ht
        rw [tokV_bad he ht]
        exact tk_long s R a w hz hab h0 hE HR HL _ hn HN h32
      · rw [if_neg h32] at ht
        rw [tokV_ok he ht]
        exact tk_name s R a w hz hab h0 hE HR HL _ hn HN (by omega) _ (by rw [ext_take, hLl])
    | false =>
      rw [hl] at HL
      cases hd : isD R[0] with
      | true =>
        rw [hd] at HD
        have hn0 : runB isD L ≤ R.size := by rw [← hlen]; exact runB_le _ _
        have hnn : numEnd L ≤ R.size := by rw [← hlen]; exact numEnd_le _
        have HN : Hid (∀ W, Calls Tryd.prog 11 #[.string R, .func (.func 19) #[] #[]] W fun e w' => e = .returned (.int .i64 (runB isD L)) ∧ W = w') := fun W => by
          have := run_dig R W (by omega)
          rw [hLl] at this; exact this
        have ht := tok_num (t := L) (by rw [ht0]; exact hl) (by rw [ht0]; exact hd)
        have hne : numEnd L = if decide (runB isD L + 1 < L.length) && L.getD (runB isD L) 0 == 46 && isD (L.getD (runB isD L + 1) 0) then runB isD L + 1 + runB isD (L.drop (runB isD L + 1)) else runB isD L := rfl
        have HM : ∀ k, k ≤ R.size → Hid (∀ W, Calls Tryd.prog 11 #[.string (R.extract k R.size), .func (.func 19) #[] #[]] W fun e w' => e = .returned (.int .i64 (runB isD (L.drop k))) ∧ W = w') := fun k hk W => by
          have := run_dig (R.extract k R.size) W (by rw [ext_size R k hk]; omega)
          rw [ext_list R k, hLl] at this; exact this
        have HX : Hid (∀ W, Calls Tryd.prog 20 #[.string ⟨(L.take (numEnd L)).toArray⟩] W fun e w' => e = .returned (ofE (L.take (numEnd L))) ∧ Below W.heap.size W w') := fun W => OfText_any _ W (by rw [List.length_take]; omega)
        obtain ⟨b, hb⟩ : ∃ b, (decide (runB isD L + 1 < L.length) && L.getD (runB isD L) 0 == 46 && isD (L.getD (runB isD L + 1) 0)) = b := ⟨_, rfl⟩
        rw [hb] at hne
        have hnx : R.extract 0 (numEnd L) = ⟨(L.take (numEnd L)).toArray⟩ := by rw [ext_take, hLl]
        have HQ : Hid ((b = false ∧ numEnd L = runB isD L) ∨ (b = true ∧ runB isD L + 1 < R.size ∧ ∃ m : Nat, Hid (∀ W, Calls Tryd.prog 11 #[.string (R.extract (runB isD L + 1) R.size), .func (.func 19) #[] #[]] W fun e w' => e = .returned (.int .i64 m) ∧ W = w') ∧ numEnd L = runB isD L + (1 + m))) := by
          cases b with
          | false => exact .inl ⟨rfl, hne⟩
          | true =>
            simp only [Bool.and_eq_true, decide_eq_true_eq] at hb
            have h1 : runB isD L + 1 < R.size := by rw [← hlen]; exact hb.1.1
            refine .inr ⟨rfl, h1, _, HM _ (by omega), ?_⟩
            rw [hne, if_pos rfl]; omega
        have HP : Hid ((R.size ≤ runB isD L + 1 ∧ b = false) ∨ (∃ h : runB isD L + 1 < R.size, ((R[runB isD L].toNat : Int) == 46) = false ∧ b = false) ∨
            (∃ h : runB isD L + 1 < R.size, ((R[runB isD L].toNat : Int) == 46) = true ∧ Hid (∀ W, Calls Tryd.prog 19 #[.int .u8 (R[runB isD L + 1].toNat : Int)] W fun e w' => e = .returned (.bool b) ∧ W = w'))) := by
          by_cases h1 : runB isD L + 1 < R.size
          · have e1 := hg (runB isD L) (by omega)
            have e2 := hg (runB isD L + 1) h1
            rw [e1, e2, decide_eq_true (show runB isD L + 1 < L.length by rw [hlen]; exact h1), Bool.true_and] at hb
            by_cases h2 : R[runB isD L] = 46
            · rw [h2] at hb
              refine .inr (.inr ⟨h1, by rw [h2]; rfl, ?_⟩)
              intro W
              have := dig1_any R[runB isD L + 1] W
              rw [show isD R[runB isD L + 1] = b by rw [← hb]; rfl] at this
              exact this
            · rw [beq_eq_false_iff_ne.2 h2, Bool.false_and] at hb
              refine .inr (.inl ⟨h1, ?_, hb.symm⟩)
              rw [beq_eq_false_iff_ne]
              intro e
              exact h2 (UInt8.toNat_inj.1 (by show R[runB isD L].toNat = 46; omega))
          · rw [decide_eq_false (by rw [hlen]; exact h1), Bool.false_and, Bool.false_and] at hb
            exact .inl ⟨by omega, hb.symm⟩
        have HSuf : ∀ x, ofT (L.take (numEnd L)) = some x → Hid ((R.size ≤ numEnd L ∧ tokV s a L = .tuple #[tkV 2 ⟨(L.take (numEnd L)).toArray⟩ x a, scV s ((a + numEnd L : Nat) : Int), .int .i64 0]) ∨
            (∃ h : numEnd L < R.size, Hid (∀ W, Calls Tryd.prog 17 #[.int .u8 (R[numEnd L].toNat : Int)] W fun e w' => e = .returned (.bool true) ∧ W = w') ∧ tokV s a L = .tuple #[tkV 0 ⟨#[]⟩ 0 a, scV s a, .int .i64 1802]) ∨
            (∃ h : numEnd L < R.size, Hid (∀ W, Calls Tryd.prog 17 #[.int .u8 (R[numEnd L].toNat : Int)] W fun e w' => e = .returned (.bool false) ∧ W = w') ∧ ((R[numEnd L].toNat : Int) == 46) = true ∧ tokV s a L = .tuple #[tkV 0 ⟨#[]⟩ 0 a, scV s a, .int .i64 1802]) ∨
            (∃ h : numEnd L < R.size, Hid (∀ W, Calls Tryd.prog 17 #[.int .u8 (R[numEnd L].toNat : Int)] W fun e w' => e = .returned (.bool false) ∧ W = w') ∧ ((R[numEnd L].toNat : Int) == 46) = false ∧ tokV s a L = .tuple #[tkV 2 ⟨(L.take (numEnd L)).toArray⟩ x a, scV s ((a + numEnd L : Nat) : Int), .int .i64 0])) := by
          intro x hx
          rw [hx] at ht
          simp only at ht
          by_cases h1 : numEnd L < R.size
          · rw [decide_eq_true (show numEnd L < L.length by rw [hlen]; exact h1), Bool.true_and, hg (numEnd L) h1] at ht
            have hlt := fun W => let1_any R[numEnd L] W
            cases hlx : letB R[numEnd L] with
            | true =>
              rw [hlx] at hlt
              rw [hlx, Bool.true_or, if_pos rfl] at ht
              exact .inr (.inl ⟨h1, hlt, tokV_bad he ht⟩)
            | false =>
              rw [hlx] at hlt
              rw [hlx, Bool.false_or] at ht
              by_cases h2 : R[numEnd L] = 46
              · rw [if_pos (by rw [h2]; rfl)] at ht
                exact .inr (.inr (.inl ⟨h1, hlt, by rw [h2]; rfl, tokV_bad he ht⟩))
              · rw [if_neg (by rw [beq_eq_false_iff_ne.2 h2]; exact Bool.false_ne_true)] at ht
                refine .inr (.inr (.inr ⟨h1, hlt, ?_, tokV_ok he ht⟩))
                rw [beq_eq_false_iff_ne]
                intro e
                exact h2 (UInt8.toNat_inj.1 (by show R[numEnd L].toNat = 46; omega))
          · rw [decide_eq_false (by rw [hlen]; exact h1), Bool.false_and, if_neg Bool.false_ne_true] at ht
            exact .inl ⟨by omega, tokV_ok he ht⟩
        cases hx : ofT (L.take (numEnd L)) with
        | none =>
          rw [show ofE (L.take (numEnd L)) = .tuple #[fv 0, .int .i64 200] by unfold ofE; rw [hx]] at HX
          rw [hx] at ht
          exact lex.tk_num s R a w hz hab h0 hE HR HL HD _ _ b hn0 hnn HN HP HQ _ hnx 0 200 HX _ (.inl ⟨by decide, tokV_bad he ht⟩)
        | some x =>
          rw [show ofE (L.take (numEnd L)) = .tuple #[fv x, .int .i64 0] by unfold ofE; rw [hx]] at HX
          refine lex.tk_num s R a w hz hab h0 hE HR HL HD _ _ b hn0 hnn HN HP HQ _ hnx x 0 HX _ (.inr ?_)
          rcases (HSuf x hx).out with ⟨h1, h2⟩ | ⟨h1, h2, h3⟩ | ⟨h1, h2, h3, h4⟩ | ⟨h1, h2, h3, h4⟩
          · exact .inl ⟨rfl, h1, h2⟩
          · exact .inr (.inl ⟨rfl, h1, h2, h3⟩)
          · exact .inr (.inr (.inl ⟨rfl, h1, h2, h3, h4⟩))
          · exact .inr (.inr (.inr ⟨rfl, h1, h2, h3, h4⟩))
      | false =>
        rw [hd] at HD
        cases hq : ((R[0].toNat : Int) == 34) with
        | true =>
          have e34 := u8_eq (n := 34) (by decide) hq
          have ht := tok_str (t := L) (by rw [ht0]; exact hl) (by rw [ht0]; exact hd) (by rw [ht0]; exact e34)
          have HT : Hid (∀ W, Calls Tryd.prog 21 #[.string R] W fun e w' => e = .returned (.tuple #[.string ⟨(textR L).1.toArray⟩, .int .i64 (textR L).2]) ∧ Below W.heap.size W w') := fun W => by
            have := text_any R W hz h0
            rw [hLl] at this; exact this
          cases hqt : qtS false (L.drop 1) with
          | none =>
            rw [hqt] at ht
            have htx : textR L = ([], 0) := by unfold textR; rw [hqt]
            rw [htx] at HT
            rw [tokV_bad he ht]
            exact tk_strbad s R a w hz hab h0 hE HR HL HD hq _ 0 HT rfl
          | some x =>
            rw [hqt] at ht
            have htx : textR L = if 1024 < x.1.length then ([], 0) else (x.1, x.2 + 1) := by unfold textR; rw [hqt]
            have hxl := qt_le _ _ _ hqt
            rw [List.length_drop, hlen] at hxl
            simp only at ht
            by_cases hb : 1024 < x.1.length
            · rw [if_pos hb] at ht htx
              rw [htx] at HT
              rw [tokV_bad he ht]
              exact tk_strbad s R a w hz hab h0 hE HR HL HD hq _ 0 HT rfl
            · rw [if_neg hb] at ht htx
              rw [htx] at HT
              rw [tokV_ok he ht]
              exact tk_str s R a w hz hab h0 hE HR HL HD hq _ _ HT (by omega) (by omega)
        | false =>
          have n34 := u8_ne (n := 34) (by decide) hq
          have := tk_sign s R a w hz hab h0 hE HR HL HD hq (fun W hW => fields_signs W (tab_below htab hW))
          rw [hLl] at this
          rw [← sig_tok s a L he (by rw [ht0]; exact hl) (by rw [ht0]; exact hd) (by rw [ht0]; exact n34)]
          exact this
end Go.Proofs.YtjanpaallealgaaDoor.lex
