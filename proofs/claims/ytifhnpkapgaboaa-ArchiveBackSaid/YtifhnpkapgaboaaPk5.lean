/-
  Proved: plain facts on a path's pieces, names, clean paths. No program is in sight.
  Proved: what strings.Cut gives at a slash. Conditions: as each theorem says.
  Proved: what strings.IndexRune gives for a rune from 128 on in the text of the bytes 47 and 0; which bytes a rune that is read takes. Conditions: as each theorem says.
  Proved: what strings.ContainsAny gives for the bytes 47 and 0; what path.Name gives. Conditions: as each theorem says.
-/
import Derived.Test.YtifhnpkapgaboaaPk3
import Derived.Test.YtifhnpkapgaboaaPk1
import Derived.Test.YtifhnpkapgaboaaPk4
import Derived.Test.YtifhnpkapgaboaaRows
import Derived.WalkSpells
import Derived.Outline
import Derived.Lib.Hide
import Derived.Lib.IndexLaws
import Derived.Laws.RangeAny
import Derived.WalkLawsBesides
import Derived.Lib.OthersKept
import Derived.Lib.IndexAny
namespace Go.Proofs.Ytifhnpkapgaboaa.path

/-- A path's pieces, cut at each 47. -/
def piecesL : List UInt8 → List (List UInt8)
  | [] => [[]]
  | c :: r => if c = 47 then [] :: piecesL r else match piecesL r with
    | [] => [[c]]
    | p :: ps => (c :: p) :: ps
theorem piecesL_ne (l : List UInt8) : piecesL l ≠ [] := by
  cases l with
  | nil => simp [piecesL]
  | cons c r =>
    unfold piecesL
    split
    · simp
    · split <;> simp
theorem pieces_no (l : List UInt8) (h : (47 : UInt8) ∉ l) : piecesL l = [l] := by
  induction l with
  | nil => rfl
  | cons c r ih =>
    rw [List.mem_cons, not_or] at h
    rw [piecesL, if_neg (fun e => h.1 e.symm), ih h.2]
theorem pieces_yes (a b : List UInt8) (h : (47 : UInt8) ∉ a) : piecesL (a ++ 47 :: b) = a :: piecesL b := by
  induction a with
  | nil => simp [piecesL]
  | cons c r ih =>
    rw [List.mem_cons, not_or] at h
    rw [List.cons_append, piecesL, if_neg (fun e => h.1 e.symm), ih h.2]
theorem cut_at (l : List UInt8) : (47 : UInt8) ∉ l ∨ ∃ a b, l = a ++ 47 :: b ∧ (47 : UInt8) ∉ a := by
  induction l with
  | nil => left; simp
  | cons c r ih =>
    by_cases hc : c = 47
    · subst hc; exact .inr ⟨[], r, rfl, by simp⟩
    · rcases ih with h | ⟨a, b, rfl, h⟩
      · left
        rw [List.mem_cons, not_or]
        exact ⟨fun e => hc e.symm, h⟩
      · right
        refine ⟨c :: a, b, rfl, ?_⟩
        rw [List.mem_cons, not_or]
        exact ⟨fun e => hc e.symm, h⟩
theorem pieces_bd (l : List UInt8) : (piecesL l).length ≤ l.length + 1 ∧ ∀ p ∈ piecesL l, p.length ≤ l.length ∧ (47 : UInt8) ∉ p := by
  induction l with
  | nil => simp [piecesL]
  | cons c r ih =>
    unfold piecesL
    split
    · refine ⟨by simp; omega, fun p hp => ?_⟩
      rcases List.mem_cons.1 hp with rfl | hp
      · simp
      · have := ih.2 p hp; exact ⟨by simp; omega, this.2⟩
    · rename_i hc
      split
      · rename_i h; exact absurd h (piecesL_ne r)
      · rename_i q qs h
        rw [h] at ih
        refine ⟨by have := ih.1; simp at this ⊢; omega, fun p hp => ?_⟩
        rcases List.mem_cons.1 hp with rfl | hp
        · have := ih.2 q (List.mem_cons_self ..)
          refine ⟨by simp; omega, ?_⟩
          rw [List.mem_cons, not_or]
          exact ⟨fun e => hc e.symm, this.2⟩
        · have := ih.2 p (List.mem_cons_of_mem _ hp)
          exact ⟨by simp; omega, this.2⟩
/-- Which fault a name has: 400, 401; none: 0. -/
def nameE (l : List UInt8) : Int := if l = [] then 400 else if l.length > 16 ∨ l = [46] ∨ l = [46, 46] ∨ (47 : UInt8) ∈ l ∨ (0 : UInt8) ∈ l then 401 else 0
def cleanB (l : List UInt8) : Bool := decide (l = []) || (decide (∀ p ∈ piecesL l, nameE p = 0) && decide ((piecesL l).length ≤ 8) && decide (l.length ≤ 140))
def partsL (l : List UInt8) : List (List UInt8) := if l = [] then [] else piecesL l
/-- One piece of a way. -/
def stepW (way : List (List UInt8)) (p : List UInt8) : Option (List (List UInt8)) :=
  if p = [] ∨ p = [46] then some way else if p = [46, 46] then some way.dropLast else if nameE p ≠ 0 then none else some (way ++ [p])
def wayW : List (List UInt8) → List (List UInt8) → Option (List (List UInt8))
  | way, [] => some way
  | way, p :: ps => match stepW way p with
    | none => none
    | some way' => wayW way' ps
theorem wayW_snoc (way ps : List (List UInt8)) (p : List UInt8) : wayW way (ps ++ [p]) = (wayW way ps).bind fun v => stepW v p := by
  induction ps generalizing way with
  | nil => simp only [List.nil_append, wayW, Option.bind_some]; cases stepW way p <;> rfl
  | cons q qs ih =>
    simp only [List.cons_append, wayW]
    cases stepW way q with
    | none => rfl
    | some v => exact ih v
def joinL (xs : List (List UInt8)) : List UInt8 := [47].intercalate xs
def startW (cwd s : List UInt8) : List (List UInt8) := if s.head? = some 47 then [] else partsL cwd
/-- What Clean gives. -/
def cleanR (cwd s : List UInt8) : List UInt8 × Int :=
  if cleanB cwd = false then ([], 401) else if s = [] then ([], 400) else if s.length > 560 then ([], 403) else
  match wayW (startW cwd s) (piecesL s) with
  | none => ([], 401)
  | some way => if way.length > 8 then ([], 402) else if (joinL way).length > 140 then ([], 403) else (joinL way, 0)
end Go.Proofs.Ytifhnpkapgaboaa.path

namespace Go.Proofs.Ytifhnpkapgaboaa.path
open Go.RowKit
open heap
set_option linter.unusedVariables false
set_option linter.unusedSimpArgs false

theorem str_size (l : List UInt8) : (⟨l.toArray⟩ : ByteArray).size = l.length := by show l.toArray.size = _; simp
theorem index_no {l : List UInt8} (h : (47 : UInt8) ∉ l) : Lib.indexByte l 47 = -1 := by
  induction l with
  | nil => rfl
  | cons c r ih =>
    rw [List.mem_cons, not_or] at h
    have : (c == 47) = false := by rw [beq_eq_false_iff_ne]; exact fun e => h.1 e.symm
    rw [Lib.indexByte, this, ih h.2]; rfl
theorem index_yes {a b : List UInt8} (h : (47 : UInt8) ∉ a) : Lib.indexByte (a ++ 47 :: b) 47 = a.length := by
  induction a with
  | nil => simp [Lib.indexByte]
  | cons c r ih =>
    rw [List.mem_cons, not_or] at h
    have h1 : (c == 47) = false := by rw [beq_eq_false_iff_ne]; exact fun e => h.1 e.symm
    have h2 : ((r.length : Int) == -1) = false := by rw [beq_eq_false_iff_ne]; omega
    rw [List.cons_append, Lib.indexByte, h1, ih h.2]
    simp only [Bool.false_eq_true, if_false, h2, List.length_cons]
    omega
theorem ext_front (a b : List UInt8) : (⟨(a ++ 47 :: b).toArray⟩ : ByteArray).extract 0 a.length = ⟨a.toArray⟩ := by
  apply ByteArray.ext
  rw [ByteArray.data_extract]
  apply Array.toList_inj.1
  simp [List.extract_eq_take_drop]
theorem ext_back (a b : List UInt8) (n : Nat) (hn : n = (a ++ 47 :: b).length) : (⟨(a ++ 47 :: b).toArray⟩ : ByteArray).extract (a.length + 1) n = ⟨b.toArray⟩ := by
  subst hn
  apply ByteArray.ext
  rw [ByteArray.data_extract]
  apply Array.toList_inj.1
  simp only [List.extract_eq_take_drop, List.drop_append, Array.toList_extract]
  rw [List.drop_eq_nil_of_le (by omega), List.nil_append, show a.length + 1 - a.length = 1 by omega, List.drop_succ_cons, List.drop_zero, List.take_of_length_le (by simp; omega)]
set_option maxRecDepth 100000 in
theorem sCut_no (l : List UInt8) (w : World) (h : (47 : UInt8) ∉ l) (hs : l.length ≤ 9223372036854775807) :
    Calls Try.prog 137 #[.string ⟨l.toArray⟩, .string ⟨#[47]⟩] w fun e w' => e = .returned (.tuple #[.string ⟨l.toArray⟩, .string ⟨#[]⟩, .bool false]) ∧ Below w.heap.size w w' := by
  have HI := Lib.hid (fun W : World => Try.stringslite_Index_one ⟨l.toArray⟩ 47 W)
  have HX := Lib.hid (index_no h)
  clear h
  go_enter Try.func137, Try.ntmps137
  go_wp2_with fail
  (with_reducible refine (HI.out _).mono ?_); rintro e w1 ⟨rfl, rfl⟩
  rw [HX.out]
  go_wp2
  go_ret3
  exact ⟨rfl, Below.refl _ _⟩
set_option maxRecDepth 100000 in
theorem sCut_yes (a b : List UInt8) (w : World) (h : (47 : UInt8) ∉ a) (hs : (a ++ 47 :: b).length ≤ 9223372036854775807) :
    Calls Try.prog 137 #[.string ⟨(a ++ 47 :: b).toArray⟩, .string ⟨#[47]⟩] w fun e w' => e = .returned (.tuple #[.string ⟨a.toArray⟩, .string ⟨b.toArray⟩, .bool true]) ∧ Below w.heap.size w w' := by
  have HI := Lib.hid (fun W : World => Try.stringslite_Index_one ⟨(a ++ 47 :: b).toArray⟩ 47 W)
  have HX := Lib.hid (index_yes (b := b) h)
  have z := str_size (a ++ 47 :: b)
  have e1 := ext_front a b
  have e2 := ext_back a b _ rfl
  have hl : (a ++ 47 :: b).length = a.length + 1 + b.length := by simp; omega
  rw [hl] at z e2 hs
  have HD : Hid ((⟨(a ++ 47 :: b).toArray⟩ : ByteArray).data.toList = a ++ 47 :: b) := by simp [Hid]
  generalize hS : (⟨(a ++ 47 :: b).toArray⟩ : ByteArray) = S at *
  have z1 : a.length + 1 ≤ S.size := by omega
  have z2 : S.size ≤ 9223372036854775807 := by omega
  have e2' : S.extract (a.length + 1) S.size = ⟨b.toArray⟩ := by rw [z]; exact e2
  have q1 : IntKind.i64.wrap ((a.length : Int) + 1) = a.length + 1 := by rw [IntKind.wrap_i64]; omega
  have i1 : (a.length : Int) ≤ S.size := by omega
  have i2 : (a.length : Int) + 1 ≤ S.size := by omega
  clear h z e2 hS hl hs
  go_enter Try.func137, Try.ntmps137
  go_wp2_with fail
  (with_reducible refine (HI.out _).mono ?_); rintro e w1 ⟨rfl, rfl⟩
  rw [HD.out, HX.out]
  go_wp2_with fail
  refine reg.region_each (by kernel_rfl) reg.Ext (fun ri v w' => match ri with
      | 0 => v = .string S
      | 1 => v = .int .i64 a.length
      | 2 => v = .string ⟨a.toArray⟩
      | 3 => v = .string S
      | 4 => v = .int .i64 a.length
      | 5 => v = .string ⟨#[47]⟩
      | 6 => v = .int .i64 1
      | 7 => v = .int .i64 (a.length + 1)
      | 8 => v = .string ⟨b.toArray⟩
      | 9 => v = .string ⟨a.toArray⟩
      | 10 => v = .string ⟨b.toArray⟩
      | 11 => v = .bool true
      | _ => True) reg.Ext.refl reg.Ext.trans ?_ (by kernel_rfl) ?_ ?_
  ·
    intro i v w1 w2 h hx
    rcases i with _|_|_|_|_|_|_|_|_|_|_|_|i
    · exact h
    · exact h
    · exact h
    · exact h
    · exact h
    · exact h
    · exact h
    · exact h
    · exact h
    · exact h
    · exact h
    · exact h
    · trivial
  ·
    refine ⟨?_, ?_, ?_, ?_, ?_, ?_, ?_, ?_, ?_, ?_, ?_, ?_, trivial⟩
    · -- 0: slot 13 := Op.move t0
      intro ra w' hx hs
      have s0 : ra.eval (.tmp 0) = .string S := hs.1
      clear hs
      change Oper.wp _ _ ra w' _ _
      refine reg.wp_value (v := .string S) (w' := w') ?_ ⟨_, rfl, reg.Ext.refl _, rfl⟩
      intro ρ rc rf rg re
      rw [re] at s0
      simp [execOp, go_sem, rc, rf, rg, s0] <;> first | omega | rfl | decide
    · -- 1: slot 14 := Op.move t7
      intro ra w' hx hs
      have s7 : ra.eval (.tmp 7) = .int .i64 a.length := hs.1
      clear hs
      change Oper.wp _ _ ra w' _ _
      refine reg.wp_value (v := .int .i64 a.length) (w' := w') ?_ ⟨_, rfl, reg.Ext.refl _, rfl⟩
      intro ρ rc rf rg re
      rw [re] at s7
      simp [execOp, go_sem, rc, rf, rg, s7] <;> first | omega | rfl | decide
    · -- 2: slot 15 := Op.slice 9 t13 none (some t14) none
      intro ra w' hx hs
      have s13 : ra.eval (.tmp 13) = .string S := hs.1
      have s14 : ra.eval (.tmp 14) = .int .i64 a.length := hs.2.1
      clear hs
      change Oper.wp _ _ ra w' _ _
      refine reg.wp_value (v := .string ⟨a.toArray⟩) (w' := w') ?_ ⟨_, rfl, reg.Ext.refl _, rfl⟩
      intro ρ rc rf rg re
      rw [re] at s13 s14
      simp [execOp, go_sem, rc, rf, rg, s13, s14, e1, i1, z1] <;> first | omega | rfl | decide
    · -- 3: slot 16 := Op.move t0
      intro ra w' hx hs
      have s0 : ra.eval (.tmp 0) = .string S := hs.1
      clear hs
      change Oper.wp _ _ ra w' _ _
      refine reg.wp_value (v := .string S) (w' := w') ?_ ⟨_, rfl, reg.Ext.refl _, rfl⟩
      intro ρ rc rf rg re
      rw [re] at s0
      simp [execOp, go_sem, rc, rf, rg, s0] <;> first | omega | rfl | decide
    · -- 4: slot 17 := Op.move t7
      intro ra w' hx hs
      have s7 : ra.eval (.tmp 7) = .int .i64 a.length := hs.1
      clear hs
      change Oper.wp _ _ ra w' _ _
      refine reg.wp_value (v := .int .i64 a.length) (w' := w') ?_ ⟨_, rfl, reg.Ext.refl _, rfl⟩
      intro ρ rc rf rg re
      rw [re] at s7
      simp [execOp, go_sem, rc, rf, rg, s7] <;> first | omega | rfl | decide
    · -- 5: slot 18 := Op.move t1
      intro ra w' hx hs
      have s1 : ra.eval (.tmp 1) = .string ⟨#[47]⟩ := hs.1
      clear hs
      change Oper.wp _ _ ra w' _ _
      refine reg.wp_value (v := .string ⟨#[47]⟩) (w' := w') ?_ ⟨_, rfl, reg.Ext.refl _, rfl⟩
      intro ρ rc rf rg re
      rw [re] at s1
      simp [execOp, go_sem, rc, rf, rg, s1] <;> first | omega | rfl | decide
    · -- 6: slot 19 := Op.call { builtin len, args := #[t18], argTypes := #[9] }
      intro ra w' hx hs
      have s18 : ra.eval (.tmp 18) = .string ⟨#[47]⟩ := hs.1
      clear hs
      change Oper.wp _ _ ra w' _ _
      refine reg.wp_value (v := .int .i64 1) (w' := w') ?_ ⟨_, rfl, reg.Ext.refl _, rfl⟩
      intro ρ rc rf rg re
      rw [re] at s18
      simp [execOp, go_sem, rc, rf, rg, s18] <;> first | omega | rfl | decide
    · -- 7: slot 20 := Op.binOp BinOp.add 3 t17 t19 3
      intro ra w' hx hs
      have s17 : ra.eval (.tmp 17) = .int .i64 a.length := hs.1
      have s19 : ra.eval (.tmp 19) = .int .i64 1 := hs.2.1
      clear hs
      change Oper.wp _ _ ra w' _ _
      refine reg.wp_value (v := .int .i64 (a.length + 1)) (w' := w') ?_ ⟨_, rfl, reg.Ext.refl _, rfl⟩
      intro ρ rc rf rg re
      rw [re] at s17 s19
      simp [execOp, go_sem, rc, rf, rg, s17, s19, q1] <;> first | omega | rfl | decide
    · -- 8: slot 21 := Op.slice 9 t16 (some t20) none none
      intro ra w' hx hs
      have s16 : ra.eval (.tmp 16) = .string S := hs.1
      have s20 : ra.eval (.tmp 20) = .int .i64 (a.length + 1) := hs.2.1
      clear hs
      change Oper.wp _ _ ra w' _ _
      refine reg.wp_value (v := .string ⟨b.toArray⟩) (w' := w') ?_ ⟨_, rfl, reg.Ext.refl _, rfl⟩
      intro ρ rc rf rg re
      rw [re] at s16 s20
      simp [execOp, go_sem, rc, rf, rg, s16, s20, e2', i2, z1] <;> first | omega | rfl | decide
    · -- 9: slot 4 := Op.assign t15
      intro ra w' hx hs
      have s15 : ra.eval (.tmp 15) = .string ⟨a.toArray⟩ := hs.1
      clear hs
      change Oper.wp _ _ ra w' _ _
      refine reg.wp_value (v := .string ⟨a.toArray⟩) (w' := w') ?_ ⟨_, rfl, reg.Ext.refl _, rfl⟩
      intro ρ rc rf rg re
      rw [re] at s15
      simp [execOp, go_sem, rc, rf, rg, s15] <;> first | omega | rfl | decide
    · -- 10: slot 5 := Op.assign t21
      intro ra w' hx hs
      have s21 : ra.eval (.tmp 21) = .string ⟨b.toArray⟩ := hs.1
      clear hs
      change Oper.wp _ _ ra w' _ _
      refine reg.wp_value (v := .string ⟨b.toArray⟩) (w' := w') ?_ ⟨_, rfl, reg.Ext.refl _, rfl⟩
      intro ρ rc rf rg re
      rw [re] at s21
      simp [execOp, go_sem, rc, rf, rg, s21] <;> first | omega | rfl | decide
    · -- 11: slot 6 := Op.assign (const (Value.bool true))
      intro ra w' hx hs
      clear hs
      change Oper.wp _ _ ra w' _ _
      refine reg.wp_value (v := .bool true) (w' := w') ?_ ⟨_, rfl, reg.Ext.refl _, rfl⟩
      intro ρ rc rf rg re
      simp [execOp, go_sem, rc, rf, rg] <;> first | omega | rfl | decide
  intro rV w2 hx hf
  have ve0 : rV 0 = .string S := hf 0 (by decide)
  have ve1 : rV 1 = .int .i64 a.length := hf 1 (by decide)
  have ve2 : rV 2 = .string ⟨a.toArray⟩ := hf 2 (by decide)
  have ve3 : rV 3 = .string S := hf 3 (by decide)
  have ve4 : rV 4 = .int .i64 a.length := hf 4 (by decide)
  have ve5 : rV 5 = .string ⟨#[47]⟩ := hf 5 (by decide)
  have ve6 : rV 6 = .int .i64 1 := hf 6 (by decide)
  have ve7 : rV 7 = .int .i64 (a.length + 1) := hf 7 (by decide)
  have ve8 : rV 8 = .string ⟨b.toArray⟩ := hf 8 (by decide)
  have ve9 : rV 9 = .string ⟨a.toArray⟩ := hf 9 (by decide)
  have ve10 : rV 10 = .string ⟨b.toArray⟩ := hf 10 (by decide)
  have ve11 : rV 11 = .bool true := hf 11 (by decide)
  clear hf
  simp only [List.zipIdx_cons, List.zipIdx_nil, List.foldl_cons, List.foldl_nil, Act.put, Nat.reduceAdd, List.setIfInBounds_toArray, List.set_cons_succ, List.set_cons_zero, ve0, ve1, ve2, ve3, ve4, ve5, ve6, ve7, ve8, ve9, ve10, ve11]
  clear ve0 ve1 ve2 ve3 ve4 ve5 ve6 ve7 ve8 ve9 ve10 ve11
  clear rV
  go_wp2_with fail
  go_ret3
  exact ⟨rfl, Below.trans (Below.drew (Below.refl _ _)) hx⟩
set_option maxRecDepth 100000 in
theorem Cut_no (l : List UInt8) (w : World) (h : (47 : UInt8) ∉ l) (hs : l.length ≤ 9223372036854775807) :
    Calls Try.prog 126 #[.string ⟨l.toArray⟩, .string ⟨#[47]⟩] w fun e w' => e = .returned (.tuple #[.string ⟨l.toArray⟩, .string ⟨#[]⟩, .bool false]) ∧ Below w.heap.size w w' := by
  have HI := Lib.hid (fun W : World => sCut_no l W h hs)
  clear h
  go_enter Try.func126, Try.ntmps126
  go_wp2_with fail
  (with_reducible refine (HI.out _).mono ?_); rintro e w1 ⟨rfl, hb⟩
  go_wp2
  go_ret3
  exact ⟨rfl, hb⟩
set_option maxRecDepth 100000 in
theorem Cut_yes (a b : List UInt8) (w : World) (h : (47 : UInt8) ∉ a) (hs : (a ++ 47 :: b).length ≤ 9223372036854775807) :
    Calls Try.prog 126 #[.string ⟨(a ++ 47 :: b).toArray⟩, .string ⟨#[47]⟩] w fun e w' => e = .returned (.tuple #[.string ⟨a.toArray⟩, .string ⟨b.toArray⟩, .bool true]) ∧ Below w.heap.size w w' := by
  have HI := Lib.hid (fun W : World => sCut_yes a b W h hs)
  clear h
  generalize hS : (⟨(a ++ 47 :: b).toArray⟩ : ByteArray) = S at *
  clear hS hs
  go_enter Try.func126, Try.ntmps126
  go_wp2_with fail
  (with_reducible refine (HI.out _).mono ?_); rintro e w1 ⟨rfl, hb⟩
  go_wp2
  go_ret3
  exact ⟨rfl, hb⟩
end Go.Proofs.Ytifhnpkapgaboaa.path

namespace Go.Proofs.Ytifhnpkapgaboaa.path
open Go.RowKit
open heap
set_option linter.unusedVariables false
set_option linter.unusedSimpArgs false

theorem get_k (s : ByteArray) (k : Nat) (h : k < s.size) : s.get! k = s[k]'h := get_at s k h
theorem decode_wide (s : ByteArray) (pos : Nat) (h : pos < s.size) (ha : 128 ≤ (s[pos]'h).toNat) :
    (Utf8.decode s pos).1 ≤ 1114111 ∧ ∀ j, j < (Utf8.decode s pos).2 → ∃ hj : pos + j < s.size, 128 ≤ (s[pos + j]'hj).toNat := by
  have hn : ¬ (s[pos]'h).toNat < 128 := by omega
  have h0 : ∃ hj : pos + 0 < s.size, 128 ≤ (s[pos + 0]'hj).toNat := ⟨h, ha⟩
  have key : ∀ k, (decide (pos + k < s.size) && (s.get! (pos + k)).toNat / 64 == 2) = true → ∃ hj : pos + k < s.size, 128 ≤ (s[pos + k]'hj).toNat := by
    intro k hk
    simp only [Bool.and_eq_true, decide_eq_true_eq, beq_iff_eq] at hk
    refine ⟨hk.1, ?_⟩
    rw [get_k s _ hk.1] at hk
    omega
  have one : ∀ r : Nat, r ≤ 1114111 → r ≤ 1114111 ∧ ∀ j, j < 1 → ∃ hj : pos + j < s.size, 128 ≤ (s[pos + j]'hj).toNat := fun r hr => ⟨hr, fun j hj => by obtain rfl : j = 0 := (by omega); exact h0⟩
  have hb : ∀ k, (s.get! (pos + k)).toNat < 256 := fun k => (s.get! (pos + k)).toNat_lt
  have b1 := hb 1; have b2 := hb 2; have b3 := hb 3
  have b0 : (s[pos]'h).toNat < 256 := (s[pos]'h).toNat_lt
  simp only [Utf8.decode, get_at s pos h, hn, if_false]
  split
  · rename_i hc
    rw [Bool.and_eq_true] at hc
    split
    · refine ⟨by omega, fun j hj => ?_⟩
      match j, hj with
      | 0, _ => exact h0
      | 1, _ => exact key 1 hc.2
    · exact one _ (by decide)
  · split
    · rename_i hc
      rw [Bool.and_eq_true, Bool.and_eq_true] at hc
      split
      · refine ⟨by omega, fun j hj => ?_⟩
        match j, hj with
        | 0, _ => exact h0
        | 1, _ => exact key 1 hc.1.2
        | 2, _ => exact key 2 hc.2
      · exact one _ (by decide)
    · split
      · rename_i hc
        rw [Bool.and_eq_true, Bool.and_eq_true, Bool.and_eq_true] at hc
        split
        · rename_i hv
          simp only [Bool.and_eq_true, Utf8.valid] at hv
          refine ⟨?_, fun j hj => ?_⟩
          · have := hv.2
            simp at this
            omega
          · match j, hj with
            | 0, _ => exact h0
            | 1, _ => exact key 1 hc.1.1.2
            | 2, _ => exact key 2 hc.1.2
            | 3, _ => exact key 3 hc.2
        · exact one _ (by decide)
      · exact one _ (by decide)
theorem encode_high (r : Int) (h : 128 ≤ r) : ((Utf8.encode r).size = 2 ∧ ∃ x y : UInt8, Utf8.encode r = ⟨#[x, y]⟩ ∧ 128 ≤ y.toNat) ∨ (3 ≤ (Utf8.encode r).size ∧ (Utf8.encode r).size ≤ 4) := by
  have hc : ¬ (if Utf8.valid r then r.toNat else Utf8.runeError) < 128 := by
    split
    · omega
    · decide
  unfold Utf8.encode
  simp only [hc, if_false]
  generalize (if Utf8.valid r then r.toNat else Utf8.runeError) = c at *
  split
  · refine .inl ⟨rfl, _, _, rfl, ?_⟩
    rw [UInt8.toNat_ofNat_of_lt' (by show _ < 256; omega)]
    omega
  · right
    split
    · exact ⟨Nat.le_refl 3, by show 3 ≤ 4; omega⟩
    · exact ⟨by show 3 ≤ 4; omega, Nat.le_refl 4⟩
theorem conv_rune (r : Int) (w : World) : (convert 21 9 (.int .i32 r)).run Try.prog w = .ok (.string (Utf8.encode r)) w := by
  simp [convert, go_sem, Try.underlying21, Try.underlying9, Conv.intToString]
set_option maxRecDepth 100000 in
set_option maxHeartbeats 1000000 in
theorem rune_error (w : World) :
    Calls Try.prog 142 #[.string ⟨#[47, 0]⟩, .int .i32 65533] w fun e w' => e = .returned (.int .i64 (-1)) ∧ Below w.heap.size w w' := by
  go_enter Try.func142, Try.ntmps142
  go_wp2_with fail
  go_loopw [5, 6] (fun _ _ wr => ∃ i : Nat, i ≤ 2 ∧ Hid (wr = w.iter ⟨#[47, 0]⟩ i)) (fun _ _ wr => 2 - wr.iterPos w.heap.size)
  case atStart => exact ⟨0, by omega, rfl⟩
  case round =>
    obtain ⟨i, hi, HW⟩ := hrel
    obtain rfl := HW.out
    clear HW
    rcases (show i = 0 ∨ i = 1 ∨ i = 2 by omega) with rfl | rfl | rfl
    · have hnx := fun ty => run_next_ascii (P := Try.prog) w ⟨#[47, 0]⟩ 0 ty (by decide) (by decide)
      go_wp2_with fail
      go_roundw
      case rel => exact ⟨1, by omega, rfl⟩
      case measure => simp
    · have hnx := fun ty => run_next_ascii (P := Try.prog) w ⟨#[47, 0]⟩ 1 ty (by decide) (by decide)
      go_wp2_with fail
      go_roundw
      case rel => exact ⟨2, by omega, rfl⟩
      case measure => simp
    · have hnx := fun ty => run_next_end (P := Try.prog) w ⟨#[47, 0]⟩ 2 ty (by decide)
      go_wp2_with fail
      go_ret
      exact ⟨rfl, (Below.refl _ _).alloc (Nat.le_refl _) _⟩
set_option maxRecDepth 100000 in
set_option maxHeartbeats 1000000 in
theorem rune_bad (r : Int) (w : World) (h : 128 ≤ r) (h2 : r ≤ 1114111) (hne : r ≠ 65533) (hv : Lib.validRune r = false) :
    Calls Try.prog 142 #[.string ⟨#[47, 0]⟩, .int .i32 r] w fun e w' => e = .returned (.int .i64 (-1)) ∧ Below w.heap.size w w' := by
  have b1 : (r == 65533) = false := by rw [beq_eq_false_iff_ne]; exact hne
  have HV := Lib.hid (fun W : World => Try.utf8_ValidRune r W)
  have HH := Lib.hid hv
  clear hne hv
  go_enter Try.func142, Try.ntmps142
  go_wp2_with fail
  (with_reducible refine (HV.out _).mono ?_); rintro e w1 ⟨rfl, rfl⟩
  rw [HH.out]
  go_wp2_with fail
  go_ret
  exact ⟨rfl, Below.refl _ _⟩
set_option maxRecDepth 100000 in
set_option maxHeartbeats 1000000 in
theorem rune_good (r : Int) (w : World) (h : 128 ≤ r) (h2 : r ≤ 1114111) (hne : r ≠ 65533) (hv : Lib.validRune r = true) :
    Calls Try.prog 142 #[.string ⟨#[47, 0]⟩, .int .i32 r] w fun e w' => e = .returned (.int .i64 (-1)) ∧ Below w.heap.size w w' := by
  have b1 : (r == 65533) = false := by rw [beq_eq_false_iff_ne]; exact hne
  have HV := Lib.hid (fun W : World => Try.utf8_ValidRune r W)
  have HH := Lib.hid hv
  have hc := conv_rune r
  have d1 : decide (r < 128) = false := by simp; omega
  have hE := encode_high r h
  have HC := Lib.hid hc
  clear hne hv hc
  rcases hE with ⟨hz, x, y, he, hy⟩ | ⟨hz1, hz2⟩
  · rw [he] at HC
    have hc := HC.out
    have HB := Lib.hid (fun W : World => Try.strings_IndexByte ⟨#[]⟩ (y.toNat : Int) W)
    have hne : ((0 : Int) != (y.toNat : Int)) = true := by rw [bne_iff_ne]; omega
    clear hz he
    go_enter Try.func142, Try.ntmps142
    go_wp2_with fail
    (with_reducible refine (HV.out _).mono ?_); rintro e w1 ⟨rfl, rfl⟩
    rw [HH.out]
    go_wp2_with fail
    go_step3
    go_wp2_with fail
    go_loopw [9] (fun i wr => i = .int .i64 1 ∧ Hid (w1 = wr)) (fun _ _ => 0)
    case atStart => exact ⟨rfl, rfl⟩
    case round =>
      obtain ⟨rfl, HW⟩ := hrel
      go_wp2_with fail
      go_step3
      go_wp2_with fail
      refine reg.region_each (by kernel_rfl) reg.Ext (fun ri v w' => match ri with
          | 0 => v = .string ⟨#[47, 0]⟩
          | 1 => v = .int .i64 1
          | 2 => v = .int .u8 0
          | 3 => v = .string ⟨#[x, y]⟩
          | 4 => v = .int .i64 1
          | 5 => v = .int .u8 y.toNat
          | 6 => v = .bool true
          | _ => True) reg.Ext.refl reg.Ext.trans ?_ (by kernel_rfl) ?_ ?_
      ·
        intro i v w1 w2 h hx
        rcases i with _|_|_|_|_|_|_|i
        · exact h
        · exact h
        · exact h
        · exact h
        · exact h
        · exact h
        · exact h
        · trivial
      ·
        refine ⟨?_, ?_, ?_, ?_, ?_, ?_, ?_, trivial⟩
        · -- 0: slot 27 := Op.move t0
          intro ra w' hx hs
          have s0 : ra.eval (.tmp 0) = .string ⟨#[47, 0]⟩ := hs.1
          clear hs
          change Oper.wp _ _ ra w' _ _
          refine reg.wp_value (v := .string ⟨#[47, 0]⟩) (w' := w') ?_ ⟨_, rfl, reg.Ext.refl _, rfl⟩
          intro ρ rc rf rg re
          rw [re] at s0
          simp [execOp, go_sem, rc, rf, rg, s0] <;> first | omega | rfl | decide
        · -- 1: slot 28 := Op.move t9
          intro ra w' hx hs
          have s9 : ra.eval (.tmp 9) = .int .i64 1 := hs.1
          clear hs
          change Oper.wp _ _ ra w' _ _
          refine reg.wp_value (v := .int .i64 1) (w' := w') ?_ ⟨_, rfl, reg.Ext.refl _, rfl⟩
          intro ρ rc rf rg re
          rw [re] at s9
          simp [execOp, go_sem, rc, rf, rg, s9] <;> first | omega | rfl | decide
        · -- 2: slot 29 := Op.index 9 t27 t28
          intro ra w' hx hs
          have s27 : ra.eval (.tmp 27) = .string ⟨#[47, 0]⟩ := hs.1
          have s28 : ra.eval (.tmp 28) = .int .i64 1 := hs.2.1
          clear hs
          change Oper.wp _ _ ra w' _ _
          refine reg.wp_value (v := .int .u8 0) (w' := w') ?_ ⟨_, rfl, reg.Ext.refl _, rfl⟩
          intro ρ rc rf rg re
          rw [re] at s27 s28
          simp [execOp, go_sem, rc, rf, rg, s27, s28] <;> first | omega | rfl | decide
        · -- 3: slot 30 := Op.move t7
          intro ra w' hx hs
          have s7 : ra.eval (.tmp 7) = .string ⟨#[x, y]⟩ := hs.1
          clear hs
          change Oper.wp _ _ ra w' _ _
          refine reg.wp_value (v := .string ⟨#[x, y]⟩) (w' := w') ?_ ⟨_, rfl, reg.Ext.refl _, rfl⟩
          intro ρ rc rf rg re
          rw [re] at s7
          simp [execOp, go_sem, rc, rf, rg, s7] <;> first | omega | rfl | decide
        · -- 4: slot 31 := Op.move t8
          intro ra w' hx hs
          have s8 : ra.eval (.tmp 8) = .int .i64 1 := hs.1
          clear hs
          change Oper.wp _ _ ra w' _ _
          refine reg.wp_value (v := .int .i64 1) (w' := w') ?_ ⟨_, rfl, reg.Ext.refl _, rfl⟩
          intro ρ rc rf rg re
          rw [re] at s8
          simp [execOp, go_sem, rc, rf, rg, s8] <;> first | omega | rfl | decide
        · -- 5: slot 32 := Op.index 9 t30 t31
          intro ra w' hx hs
          have s30 : ra.eval (.tmp 30) = .string ⟨#[x, y]⟩ := hs.1
          have s31 : ra.eval (.tmp 31) = .int .i64 1 := hs.2.1
          clear hs
          change Oper.wp _ _ ra w' _ _
          refine reg.wp_value (v := .int .u8 y.toNat) (w' := w') ?_ ⟨_, rfl, reg.Ext.refl _, rfl⟩
          intro ρ rc rf rg re
          rw [re] at s30 s31
          simp [execOp, go_sem, rc, rf, rg, s30, s31] <;> first | omega | rfl | decide
        · -- 6: slot 33 := Op.binOp BinOp.neq 5 t29 t32 5
          intro ra w' hx hs
          have s29 : ra.eval (.tmp 29) = .int .u8 0 := hs.1
          have s32 : ra.eval (.tmp 32) = .int .u8 y.toNat := hs.2.1
          clear hs
          change Oper.wp _ _ ra w' _ _
          refine reg.wp_value (v := .bool true) (w' := w') ?_ ⟨_, rfl, reg.Ext.refl _, rfl⟩
          intro ρ rc rf rg re
          rw [re] at s29 s32
          simp [execOp, go_sem, rc, rf, rg, s29, s32, hne] <;> first | omega | rfl | decide
      intro rV w2 hx hf
      have ve0 : rV 0 = .string ⟨#[47, 0]⟩ := hf 0 (by decide)
      have ve1 : rV 1 = .int .i64 1 := hf 1 (by decide)
      have ve2 : rV 2 = .int .u8 0 := hf 2 (by decide)
      have ve3 : rV 3 = .string ⟨#[x, y]⟩ := hf 3 (by decide)
      have ve4 : rV 4 = .int .i64 1 := hf 4 (by decide)
      have ve5 : rV 5 = .int .u8 y.toNat := hf 5 (by decide)
      have ve6 : rV 6 = .bool true := hf 6 (by decide)
      clear hf
      simp only [List.zipIdx_cons, List.zipIdx_nil, List.foldl_cons, List.foldl_nil, Act.put, Nat.reduceAdd, List.setIfInBounds_toArray, List.set_cons_succ, List.set_cons_zero, ve0, ve1, ve2, ve3, ve4, ve5, ve6]
      clear ve0 ve1 ve2 ve3 ve4 ve5 ve6
      clear rV
      have HB2 : Hid (Below w1.heap.size w1 w2) := by rw [HW.out]; exact Below.trans (Below.drew (Below.refl _ _)) hx
      clear hx HW
      go_wp2_with fail
      refine reg.region_each (by kernel_rfl) reg.Ext (fun ri v w' => match ri with
          | 0 => v = .string ⟨#[47, 0]⟩
          | 1 => v = .int .i64 1
          | 2 => v = .int .i64 2
          | 3 => v = .string ⟨#[]⟩
          | 4 => v = .string ⟨#[x, y]⟩
          | 5 => v = .int .i64 1
          | 6 => v = .int .u8 y.toNat
          | 7 => v = .int .i64 (-1)
          | 8 => v = .int .i64 (-1)
          | _ => True) reg.Ext.refl reg.Ext.trans ?_ (by kernel_rfl) ?_ ?_
      ·
        intro i v w1 w2 h hx
        rcases i with _|_|_|_|_|_|_|_|_|i
        · exact h
        · exact h
        · exact h
        · exact h
        · exact h
        · exact h
        · exact h
        · exact h
        · exact h
        · trivial
      ·
        refine ⟨?_, ?_, ?_, ?_, ?_, ?_, ?_, ?_, ?_, trivial⟩
        · -- 0: slot 34 := Op.move t0
          intro ra w' hx hs
          have s0 : ra.eval (.tmp 0) = .string ⟨#[47, 0]⟩ := hs.1
          clear hs
          change Oper.wp _ _ ra w' _ _
          refine reg.wp_value (v := .string ⟨#[47, 0]⟩) (w' := w') ?_ ⟨_, rfl, reg.Ext.refl _, rfl⟩
          intro ρ rc rf rg re
          rw [re] at s0
          simp [execOp, go_sem, rc, rf, rg, s0] <;> first | omega | rfl | decide
        · -- 1: slot 35 := Op.move t9
          intro ra w' hx hs
          have s9 : ra.eval (.tmp 9) = .int .i64 1 := hs.1
          clear hs
          change Oper.wp _ _ ra w' _ _
          refine reg.wp_value (v := .int .i64 1) (w' := w') ?_ ⟨_, rfl, reg.Ext.refl _, rfl⟩
          intro ρ rc rf rg re
          rw [re] at s9
          simp [execOp, go_sem, rc, rf, rg, s9] <;> first | omega | rfl | decide
        · -- 2: slot 36 := Op.binOp BinOp.add 3 t35 (const (1:i64)) 3
          intro ra w' hx hs
          have s35 : ra.eval (.tmp 35) = .int .i64 1 := hs.1
          clear hs
          change Oper.wp _ _ ra w' _ _
          refine reg.wp_value (v := .int .i64 2) (w' := w') ?_ ⟨_, rfl, reg.Ext.refl _, rfl⟩
          intro ρ rc rf rg re
          rw [re] at s35
          simp [execOp, go_sem, rc, rf, rg, s35] <;> first | omega | rfl | decide
        · -- 3: slot 37 := Op.slice 9 t34 (some t36) none none
          intro ra w' hx hs
          have s34 : ra.eval (.tmp 34) = .string ⟨#[47, 0]⟩ := hs.1
          have s36 : ra.eval (.tmp 36) = .int .i64 2 := hs.2.1
          clear hs
          change Oper.wp _ _ ra w' _ _
          refine reg.wp_value (v := .string ⟨#[]⟩) (w' := w') ?_ ⟨_, rfl, reg.Ext.refl _, rfl⟩
          intro ρ rc rf rg re
          rw [re] at s34 s36
          simp [execOp, go_sem, rc, rf, rg, s34, s36] <;> first | omega | rfl | decide
        · -- 4: slot 38 := Op.move t7
          intro ra w' hx hs
          have s7 : ra.eval (.tmp 7) = .string ⟨#[x, y]⟩ := hs.1
          clear hs
          change Oper.wp _ _ ra w' _ _
          refine reg.wp_value (v := .string ⟨#[x, y]⟩) (w' := w') ?_ ⟨_, rfl, reg.Ext.refl _, rfl⟩
          intro ρ rc rf rg re
          rw [re] at s7
          simp [execOp, go_sem, rc, rf, rg, s7] <;> first | omega | rfl | decide
        · -- 5: slot 39 := Op.move t8
          intro ra w' hx hs
          have s8 : ra.eval (.tmp 8) = .int .i64 1 := hs.1
          clear hs
          change Oper.wp _ _ ra w' _ _
          refine reg.wp_value (v := .int .i64 1) (w' := w') ?_ ⟨_, rfl, reg.Ext.refl _, rfl⟩
          intro ρ rc rf rg re
          rw [re] at s8
          simp [execOp, go_sem, rc, rf, rg, s8] <;> first | omega | rfl | decide
        · -- 6: slot 40 := Op.index 9 t38 t39
          intro ra w' hx hs
          have s38 : ra.eval (.tmp 38) = .string ⟨#[x, y]⟩ := hs.1
          have s39 : ra.eval (.tmp 39) = .int .i64 1 := hs.2.1
          clear hs
          change Oper.wp _ _ ra w' _ _
          refine reg.wp_value (v := .int .u8 y.toNat) (w' := w') ?_ ⟨_, rfl, reg.Ext.refl _, rfl⟩
          intro ρ rc rf rg re
          rw [re] at s38 s39
          simp [execOp, go_sem, rc, rf, rg, s38, s39] <;> first | omega | rfl | decide
        · -- 7: slot 41 := Op.call { value (Operand.func 84), args := #[t37, t40], argTypes := #[9, 5] }
          intro ra w' hx hs
          have s37 : ra.eval (.tmp 37) = .string ⟨#[]⟩ := hs.1
          have s40 : ra.eval (.tmp 40) = .int .u8 y.toNat := hs.2.1
          clear hs
          change Oper.wp _ _ ra w' _ _
          refine reg.wp_call (f := 84) (args := #[.string ⟨#[]⟩, .int .u8 y.toNat]) (w' := w') ?_ ((HB.out _).mono ?_)
          · intro ρ rc rf rg re
            rw [re] at s37 s40
            simp [execOp, go_sem, rc, rf, rg, s37, s40] <;> first | omega | rfl | decide
          · rintro e w3 ⟨rfl, rfl⟩
            exact ⟨_, rfl, _, rfl, reg.Ext.refl _, rfl⟩
        · -- 8: slot 11 := Op.assign t41
          intro ra w' hx hs
          have s41 : ra.eval (.tmp 41) = .int .i64 (-1) := hs.1
          clear hs
          change Oper.wp _ _ ra w' _ _
          refine reg.wp_value (v := .int .i64 (-1)) (w' := w') ?_ ⟨_, rfl, reg.Ext.refl _, rfl⟩
          intro ρ rc rf rg re
          rw [re] at s41
          simp [execOp, go_sem, rc, rf, rg, s41] <;> first | omega | rfl | decide
      intro rV w3 hx hf
      have ve0 : rV 0 = .string ⟨#[47, 0]⟩ := hf 0 (by decide)
      have ve1 : rV 1 = .int .i64 1 := hf 1 (by decide)
      have ve2 : rV 2 = .int .i64 2 := hf 2 (by decide)
      have ve3 : rV 3 = .string ⟨#[]⟩ := hf 3 (by decide)
      have ve4 : rV 4 = .string ⟨#[x, y]⟩ := hf 4 (by decide)
      have ve5 : rV 5 = .int .i64 1 := hf 5 (by decide)
      have ve6 : rV 6 = .int .u8 y.toNat := hf 6 (by decide)
      have ve7 : rV 7 = .int .i64 (-1) := hf 7 (by decide)
      have ve8 : rV 8 = .int .i64 (-1) := hf 8 (by decide)
      clear hf
      simp only [List.zipIdx_cons, List.zipIdx_nil, List.foldl_cons, List.foldl_nil, Act.put, Nat.reduceAdd, List.setIfInBounds_toArray, List.set_cons_succ, List.set_cons_zero, ve0, ve1, ve2, ve3, ve4, ve5, ve6, ve7, ve8]
      clear ve0 ve1 ve2 ve3 ve4 ve5 ve6 ve7 ve8
      clear rV
      have HB3 : Hid (Below w1.heap.size w1 w3) := HB2.out.trans ((Below.trans (Below.drew (Below.refl _ _)) hx).mono HB2.out.size)
      clear hx
      go_wp2_with fail
      rw [Exit.noGoto_ret]
      go_wp2_with fail
      rw [Exit.noGoto_ret]
      go_ret
      exact ⟨rfl, HB3.out⟩
  · generalize Utf8.encode r = T at *
    have hc := HC.out
    go_enter Try.func142, Try.ntmps142
    go_wp2_with fail
    (with_reducible refine (HV.out _).mono ?_); rintro e w1 ⟨rfl, rfl⟩
    rw [HH.out]
    go_wp2_with fail
    go_step3
    go_wp2_with fail
    go_loopw [9] (fun i wr => i = .int .i64 ((T.size : Int) - 1) ∧ Hid (w1 = wr)) (fun _ _ => 0)
    case atStart => exact ⟨rfl, rfl⟩
    case round =>
      obtain ⟨rfl, HW⟩ := hrel
      go_wp2_with fail
      try rw [Exit.noGoto_ret]
      go_ret
      exact ⟨rfl, by rw [← HW.out]; exact Below.refl _ _⟩
theorem rune_high (r : Int) (w : World) (h : 128 ≤ r) (h2 : r ≤ 1114111) :
    Calls Try.prog 142 #[.string ⟨#[47, 0]⟩, .int .i32 r] w fun e w' => e = .returned (.int .i64 (-1)) ∧ Below w.heap.size w w' := by
  by_cases hne : r = 65533
  · subst hne; exact rune_error w
  · cases hv : Lib.validRune r with
    | false => exact rune_bad r w h h2 hne hv
    | true => exact rune_good r w h h2 hne hv
end Go.Proofs.Ytifhnpkapgaboaa.path

namespace Go.Proofs.Ytifhnpkapgaboaa.path
open Go.RowKit
open heap
set_option linter.unusedVariables false
abbrev sv (l : List UInt8) : Value := .string ⟨l.toArray⟩

theorem iterAt_heap {w : World} {k : Nat} {s : ByteArray} {p q : Nat} (h : w.heap[k]? = some (.stringIter s p)) : (w.iterAt k s q).heap[k]? = some (.stringIter s q) := by
  have := blk_lt h
  simp [World.iterAt, this]
theorem iterAt_below {w0 w : World} {k : Nat} {s : ByteArray} {q : Nat} (h : Below w0.heap.size w0 w) (hk : w0.heap.size ≤ k) : Below w0.heap.size w0 (w.iterAt k s q) :=
  ⟨h.os, h.tape, h.output, by simp [World.iterAt]; exact h.size, fun i hi => by
    rw [← h.block i hi]
    show (w.heap.setIfInBounds k _)[i]? = _
    rw [Array.getElem?_setIfInBounds_ne (by omega)]⟩
theorem two_in (x : UInt8) : ([47, 0] : List UInt8).contains x = true ↔ x = 47 ∨ x = 0 := by simp
theorem ix_yes {x : UInt8} (h : x = 47 ∨ x = 0) : 0 ≤ Lib.indexByte [47, 0] x ∧ Lib.indexByte [47, 0] x ≤ 1 := by rcases h with rfl | rfl <;> decide
theorem ix_no {x : UInt8} (h : ¬ (x = 47 ∨ x = 0)) : Lib.indexByte [47, 0] x = -1 := by
  rw [not_or] at h
  have h1 : ((47 : UInt8) == x) = false := by rw [beq_eq_false_iff_ne]; exact fun e => h.1 e.symm
  have h2 : ((0 : UInt8) == x) = false := by rw [beq_eq_false_iff_ne]; exact fun e => h.2 e.symm
  simp [Lib.indexByte, h1, h2]
set_option maxRecDepth 100000 in
set_option maxHeartbeats 1000000 in
theorem IndexAny_short (s : ByteArray) (w : World) (h8 : s.size ≤ 8) :
    Calls Try.prog 139 #[.string s, .string ⟨#[47, 0]⟩] w fun e w' => e = .returned (.int .i64 (Lib.indexAny s.data.toList [47, 0])) ∧ Below w.heap.size w w' := by
  have d8 : decide ((8 : Int) < (s.size : Int)) = false := by simp; omega
  have HU := Lib.hid (fun W : World => Try.strings_shouldUseASCIISet (s.size : Int) W)
  go_enter Try.func139, Try.ntmps139
  go_wp2_with fail
  (with_reducible refine (HU.out _).mono ?_); rintro e w1 ⟨rfl, rfl⟩
  rw [d8]
  go_wp2_with fail
  go_loopw [9, 10] (fun _ _ wr => ∃ i : Nat, i ≤ s.size ∧ Hid (wr.heap[w1.heap.size]? = some (.stringIter s i) ∧ Below w1.heap.size w1 wr ∧ Lib.NoAny s.data.toList [47, 0] i)) (fun _ _ wr => s.size - wr.iterPos w1.heap.size)
  case atStart => exact ⟨0, by omega, World.iter_heap _ _ _, (Below.refl _ _).alloc (Nat.le_refl _) _, Lib.NoAny.zero _ _⟩
  case round =>
    obtain ⟨i, hi, HI⟩ := hrel
    obtain ⟨hk, hb, hno⟩ := HI.out
    have HIP : Hid (wr.iterPos w1.heap.size = i) := by rw [Hid, World.iterPos, hk]
    by_cases hlt : i < s.size
    · have hgl : s.data.toList[i]? = some (s[i]'hlt) := Lib.data_getElem? s i hlt
      have HG := Lib.hid hgl
      by_cases ha : (s[i]'hlt).toNat < 128
      · have hnx := fun ty => Lib.run_next_ascii_at (P := Try.prog) wr w1.heap.size s i ty hk hlt ha
        have HR := Lib.hid (fun W : World => Try.strings_IndexRune_ascii ⟨#[47, 0]⟩ ((s[i]'hlt).toNat : Int) W (by omega) (by omega))
        have HUX : Hid ((((s[i]'hlt).toNat : Int)).toNat.toUInt8 = s[i]'hlt) := by simp [Hid]
        have HK2 : Hid ((wr.iterAt w1.heap.size s (i + 1)).heap[w1.heap.size]? = some (.stringIter s (i + 1))) := iterAt_heap hk
        have HB2 : Hid (Below w1.heap.size w1 (wr.iterAt w1.heap.size s (i + 1))) := iterAt_below hb (Nat.le_refl _)
        have HP2 : Hid ((wr.iterAt w1.heap.size s (i + 1)).iterPos w1.heap.size = i + 1) := by rw [Hid, World.iterPos, HK2.out]
        have hgx : s[i]'hlt = s[i]'hlt := rfl
        generalize hx : s[i]'hlt = x at *
        have HX := Lib.hid hx
        clear hk hb hno hgl hx hgx
        by_cases hin : x = 47 ∨ x = 0
        · have hI := ix_yes hin
          have HF : Hid (Lib.indexAny s.data.toList [47, 0] = i) := Lib.indexAny_hit HI.out.2.2 HG.out ((two_in x).2 hin)
          generalize hz : Lib.indexByte [47, 0] x = z at *
          have HZ := Lib.hid hz
          clear hin hz
          go_wp2_with fail
          (with_reducible refine (HR.out _).mono ?_); rintro e w3 ⟨rfl, rfl⟩
          rw [HUX.out, HZ.out]
          go_wp2_with fail
          go_ret
          exact ⟨by rw [HF.out]; rfl, HB2.out⟩
        · have HI1 := Lib.hid (ix_no hin)
          have HN : Hid (Lib.NoAny s.data.toList [47, 0] (i + 1)) := Lib.NoAny.succ HI.out.2.2 HG.out (by
            cases hc : ([47, 0] : List UInt8).contains x with
            | false => rfl
            | true => exact absurd ((two_in x).1 hc) hin)
          clear hin
          go_wp2_with fail
          (with_reducible refine (HR.out _).mono ?_); rintro e w3 ⟨rfl, rfl⟩
          rw [HUX.out, HI1.out]
          go_wp2_with fail
          go_roundw
          case rel => exact ⟨i + 1, by omega, HK2.out, HB2.out, HN.out⟩
          case measure => rw [HP2.out, HIP.out]; omega
      · have hnx := fun ty => Lib.run_next_any_at (P := Try.prog) wr w1.heap.size s i ty hk hlt
        obtain ⟨hd1, hd2⟩ := decode_high s i hlt (by omega)
        obtain ⟨hd3, hd4⟩ := decode_wide s i hlt (by omega)
        have HD4 := Lib.hid hd4
        generalize hdec : Utf8.decode s i = d at *
        obtain ⟨r, wd⟩ := d
        simp only at hd1 hd2 hd3 hd4 hnx
        have hend : i + wd ≤ s.size := by
          obtain ⟨hj, _⟩ := hd4 (wd - 1) (by omega)
          omega
        have HN : Hid (Lib.NoAny s.data.toList [47, 0] (i + wd)) := fun j b hj hb => by
          by_cases hji : j < i
          · exact hno j b hji hb
          · obtain ⟨hq, h128⟩ := hd4 (j - i) (by omega)
            have hjs : j < s.size := by omega
            have e : s[i + (j - i)]'hq = s[j]'hjs := by congr 1; omega
            rw [e] at h128
            have hbx : s.data.toList[j]? = some (s[j]'hjs) := Lib.data_getElem? s j hjs
            rw [hbx] at hb
            cases hb
            cases hc : ([47, 0] : List UInt8).contains (s[j]'hjs) with
            | false => rfl
            | true =>
              rcases (two_in _).1 hc with h | h <;> (rw [h] at h128; exact absurd h128 (by decide))
        have HR := Lib.hid (fun W : World => rune_high (r : Int) W (by omega) (by omega))
        have HK2 : Hid ((wr.iterAt w1.heap.size s (i + wd)).heap[w1.heap.size]? = some (.stringIter s (i + wd))) := iterAt_heap hk
        have HB2 : Hid (Below w1.heap.size w1 (wr.iterAt w1.heap.size s (i + wd))) := iterAt_below hb (Nat.le_refl _)
        clear hk hb hno hgl hd4 hdec HD4
        go_wp2_with fail
        (with_reducible refine (HR.out _).mono ?_); rintro e w3 ⟨rfl, hb3⟩
        have HK3 := Lib.hid (blk_below HK2.out hb3)
        have HB3 : Hid (Below w1.heap.size w1 w3) := HB2.out.trans (hb3.mono HB2.out.size)
        have HP3 : Hid (w3.iterPos w1.heap.size = i + wd) := by rw [Hid, World.iterPos, HK3.out]
        clear hb3
        go_wp2_with fail
        go_roundw
        case rel => exact ⟨i + wd, by omega, HK3.out, HB3.out, HN.out⟩
        case measure => rw [HP3.out, HIP.out]; omega
    · obtain rfl : i = s.size := by omega
      have hnx := fun ty => Lib.run_next_end_at (P := Try.prog) wr w1.heap.size s s.size ty hk (by omega)
      have HF : Hid (Lib.indexAny s.data.toList [47, 0] = -1) := Lib.indexAny_none (by rw [← Lib.size_eq]; exact hno)
      clear hk hb hno
      go_wp2_with fail
      go_ret
      exact ⟨by rw [HF.out]; rfl, HI.out.2.1⟩
theorem zero61 : (Try.prog.info? 180).map (fun i => (i.zero, i.size)) = some (some (.agg (Array.replicate 256 (.bool false))), 256) := by kernel_rfl
theorem IndexAny_all (s : ByteArray) (w : World) (h : s.size ≤ 16) :
    Calls Try.prog 139 #[.string s, .string ⟨#[47, 0]⟩] w fun e w' => e = .returned (.int .i64 (Lib.indexAny s.data.toList [47, 0])) ∧ Below w.heap.size w w' := by
  by_cases h8 : s.size ≤ 8
  · exact IndexAny_short s w h8
  · refine (Try.strings_IndexAny_long (fun W => by kernel_rfl) s ⟨#[47, 0]⟩ w (by decide) (by omega) (by omega) (by decide) (fun j b hb => ?_)).mono ?_
    · match j, hb with
      | 0, hb => cases hb; decide
      | 1, hb => cases hb; decide
    · rintro e w' ⟨rfl, rfl⟩
      exact ⟨rfl, ((Below.refl _ _).alloc (Nat.le_refl _) _).alloc (by simp) _⟩
theorem any_iff (l : List UInt8) : (0 ≤ Lib.indexAny l [47, 0]) ↔ ((47 : UInt8) ∈ l ∨ (0 : UInt8) ∈ l) := by
  induction l with
  | nil => simp [Lib.indexAny]
  | cons c r ih =>
    have hge := Lib.indexAny_ge [47, 0] r
    unfold Lib.indexAny
    by_cases hc : ([47, 0] : List UInt8).contains c = true
    · rw [if_pos hc]
      rcases (two_in c).1 hc with rfl | rfl <;> simp
    · rw [if_neg hc]
      have hn : ¬ (c = 47 ∨ c = 0) := fun h => hc ((two_in c).2 h)
      rw [not_or] at hn
      have e1 : ((47 : UInt8) ∈ c :: r) ↔ (47 : UInt8) ∈ r := by rw [List.mem_cons]; exact ⟨fun h => h.resolve_left (fun e => hn.1 e.symm), .inr⟩
      have e2 : ((0 : UInt8) ∈ c :: r) ↔ (0 : UInt8) ∈ r := by rw [List.mem_cons]; exact ⟨fun h => h.resolve_left (fun e => hn.2 e.symm), .inr⟩
      rw [e1, e2, ← ih]
      split
      · rename_i h; rw [beq_iff_eq] at h; omega
      · rename_i h; simp at h; omega
set_option maxRecDepth 100000 in
theorem ContainsAny_all (l : List UInt8) (w : World) (h : l.length ≤ 16) :
    Calls Try.prog 132 #[sv l, .string ⟨#[47, 0]⟩] w fun e w' => e = .returned (.bool (decide ((47 : UInt8) ∈ l ∨ (0 : UInt8) ∈ l))) ∧ Below w.heap.size w w' := by
  have HI := Lib.hid (fun W : World => IndexAny_all ⟨l.toArray⟩ W (by rw [str_size]; exact h))
  have HA : Hid (decide (0 ≤ Lib.indexAny l [47, 0]) = decide ((47 : UInt8) ∈ l ∨ (0 : UInt8) ∈ l)) := by rw [Hid, decide_eq_decide]; exact any_iff l
  have hD : (⟨l.toArray⟩ : ByteArray).data.toList = l := by simp
  rw [hD] at HI
  clear h hD
  generalize Lib.indexAny l [47, 0] = z at *
  go_enter Try.func132, Try.ntmps132
  go_wp2_with fail
  (with_reducible refine (HI.out _).mono ?_); rintro e w1 ⟨rfl, hb1⟩
  have HB := Lib.hid hb1
  clear hb1
  go_wp2
  go_ret
  exact ⟨by rw [← HA.out]; rfl, HB.out⟩
set_option maxRecDepth 100000 in
set_option maxHeartbeats 1000000 in
theorem Name_any (l : List UInt8) (w : World) (hs : l.length ≤ 9223372036854775807) :
    Calls Try.prog 119 #[sv l] w fun e w' => e = .returned (.int .i64 (nameE l)) ∧ Below w.heap.size w w' := by
  have z := str_size l
  by_cases h0 : l = []
  · subst h0
    go_enter Try.func119, Try.ntmps119
    go_wp2
    go_ret
    exact ⟨rfl, Below.refl _ _⟩
  · have b0 : l.isEmpty = false := by cases l <;> simp_all
    have b0' : (l == []) = false := by rw [beq_eq_false_iff_ne]; exact h0
    by_cases h1 : 16 < l.length
    · have HN : Hid (nameE l = 401) := by rw [Hid, nameE, if_neg h0, if_pos (.inl h1)]
      clear h0
      go_enter Try.func119, Try.ntmps119
      go_wp2
      go_ret
      exact ⟨by rw [HN.out]; rfl, Below.refl _ _⟩
    · by_cases h2 : l = [46]
      · subst h2
        go_enter Try.func119, Try.ntmps119
        go_wp2
        go_ret
        exact ⟨rfl, Below.refl _ _⟩
      · by_cases h3 : l = [46, 46]
        · subst h3
          go_enter Try.func119, Try.ntmps119
          go_wp2
          go_ret
          exact ⟨rfl, Below.refl _ _⟩
        · have b2 : (l == [46]) = false := by rw [beq_eq_false_iff_ne]; exact h2
          have b3 : (l == [46, 46]) = false := by rw [beq_eq_false_iff_ne]; exact h3
          have HC := Lib.hid (fun W : World => ContainsAny_all l W (by omega))
          by_cases h4 : (47 : UInt8) ∈ l ∨ (0 : UInt8) ∈ l
          · have HN : Hid (nameE l = 401) := by rw [Hid, nameE, if_neg h0, if_pos (.inr (.inr (.inr h4)))]
            rw [decide_eq_true h4] at HC
            clear h0 h2 h3 h4
            go_enter Try.func119, Try.ntmps119
            go_wp2_with fail
            (with_reducible refine (HC.out _).mono ?_); rintro e w1 ⟨rfl, hb1⟩
            go_wp2
            go_ret
            exact ⟨by rw [HN.out]; rfl, hb1⟩
          · have HN : Hid (nameE l = 0) := by rw [Hid, nameE, if_neg h0, if_neg (fun h => h.elim h1 (fun h => h.elim h2 (fun h => h.elim h3 h4)))]
            rw [decide_eq_false h4] at HC
            clear h0 h2 h3 h4
            go_enter Try.func119, Try.ntmps119
            go_wp2_with fail
            (with_reducible refine (HC.out _).mono ?_); rintro e w1 ⟨rfl, hb1⟩
            go_wp2
            go_ret
            exact ⟨by rw [HN.out]; rfl, hb1⟩
end Go.Proofs.Ytifhnpkapgaboaa.path
