/-
  Proved: what strings.Cut gives at a slash. Conditions: as each theorem says.
-/
import Derived.Test.YtifhnpkapgaboaaReg
import Derived.Test.YtifhnpkapgaboaaHeap
import Derived.Test.YtifhnpkapgaboaaPathPlain
import Derived.Test.YtifhnpkapgaboaaShelf
import Derived.Test.YtifhnpkapgaboaaRows
import Derived.WalkSpells
import Derived.Outline
import Derived.Lib.Hide
import Derived.Lib.IndexLaws
namespace Go.Proofs.Ytifhnpkapgaboaa.path
open Go.RowKit
open heap
set_option linter.unusedVariables false
set_option linter.unusedSimpArgs false

theorem str_size (l : List UInt8) : (⟨l.toArray⟩ : ByteArray).size = l.length := by show l.toArray.size = _; simp
theorem index_no {l : List UInt8} (h : (47 : UInt8) ∉ l) : Lib.indexByte l 47 = -1 := by
  induction l with
  | nil => rfl
  | cons c r ih =>
    rw [List.mem_cons, not_or] at h
    have : (c == 47) = false := by rw [beq_eq_false_iff_ne]; exact fun e => h.1 e.symm
    rw [Lib.indexByte, this, ih h.2]; rfl
theorem index_yes {a b : List UInt8} (h : (47 : UInt8) ∉ a) : Lib.indexByte (a ++ 47 :: b) 47 = a.length := by
  induction a with
  | nil => simp [Lib.indexByte]
  | cons c r ih =>
    rw [List.mem_cons, not_or] at h
    have h1 : (c == 47) = false := by rw [beq_eq_false_iff_ne]; exact fun e => h.1 e.symm
    have h2 : ((r.length : Int) == -1) = false := by rw [beq_eq_false_iff_ne]; omega
    rw [List.cons_append, Lib.indexByte, h1, ih h.2]
    simp only [Bool.false_eq_true, if_false, h2, List.length_cons]
    omega
theorem ext_front (a b : List UInt8) : (⟨(a ++ 47 :: b).toArray⟩ : ByteArray).extract 0 a.length = ⟨a.toArray⟩ := by
  apply ByteArray.ext
  rw [ByteArray.data_extract]
  apply Array.toList_inj.1
  simp [List.extract_eq_take_drop]
theorem ext_back (a b : List UInt8) (n : Nat) (hn : n = (a ++ 47 :: b).length) : (⟨(a ++ 47 :: b).toArray⟩ : ByteArray).extract (a.length + 1) n = ⟨b.toArray⟩ := by
  subst hn
  apply ByteArray.ext
  rw [ByteArray.data_extract]
  apply Array.toList_inj.1
  simp only [List.extract_eq_take_drop, List.drop_append, Array.toList_extract]
  rw [List.drop_eq_nil_of_le (by omega), List.nil_append, show a.length + 1 - a.length = 1 by omega, List.drop_succ_cons, List.drop_zero, List.take_of_length_le (by simp; omega)]
set_option maxRecDepth 100000 in
theorem sCut_no (l : List UInt8) (w : World) (h : (47 : UInt8) ∉ l) (hs : l.length ≤ 9223372036854775807) :
    Calls Try.prog 137 #[.string ⟨l.toArray⟩, .string ⟨#[47]⟩] w fun e w' => e = .returned (.tuple #[.string ⟨l.toArray⟩, .string ⟨#[]⟩, .bool false]) ∧ Below w.heap.size w w' := by
  have HI := Lib.hid (fun W : World => Try.stringslite_Index_one ⟨l.toArray⟩ 47 W)
  have HX := Lib.hid (index_no h)
  clear h
  go_enter Try.func137, Try.ntmps137
  go_wp2_with fail
  (with_reducible refine (HI.out _).mono ?_); rintro e w1 ⟨rfl, rfl⟩
  rw [HX.out]
  go_wp2
  go_ret3
  exact ⟨rfl, Below.refl _ _⟩
set_option maxRecDepth 100000 in
theorem sCut_yes (a b : List UInt8) (w : World) (h : (47 : UInt8) ∉ a) (hs : (a ++ 47 :: b).length ≤ 9223372036854775807) :
    Calls Try.prog 137 #[.string ⟨(a ++ 47 :: b).toArray⟩, .string ⟨#[47]⟩] w fun e w' => e = .returned (.tuple #[.string ⟨a.toArray⟩, .string ⟨b.toArray⟩, .bool true]) ∧ Below w.heap.size w w' := by
  have HI := Lib.hid (fun W : World => Try.stringslite_Index_one ⟨(a ++ 47 :: b).toArray⟩ 47 W)
  have HX := Lib.hid (index_yes (b := b) h)
  have z := str_size (a ++ 47 :: b)
  have e1 := ext_front a b
  have e2 := ext_back a b _ rfl
  have hl : (a ++ 47 :: b).length = a.length + 1 + b.length := by simp; omega
  rw [hl] at z e2 hs
  have HD : Hid ((⟨(a ++ 47 :: b).toArray⟩ : ByteArray).data.toList = a ++ 47 :: b) := by simp [Hid]
  generalize hS : (⟨(a ++ 47 :: b).toArray⟩ : ByteArray) = S at *
  have z1 : a.length + 1 ≤ S.size := by omega
  have z2 : S.size ≤ 9223372036854775807 := by omega
  have e2' : S.extract (a.length + 1) S.size = ⟨b.toArray⟩ := by rw [z]; exact e2
  have q1 : IntKind.i64.wrap ((a.length : Int) + 1) = a.length + 1 := by rw [IntKind.wrap_i64]; omega
  have i1 : (a.length : Int) ≤ S.size := by omega
  have i2 : (a.length : Int) + 1 ≤ S.size := by omega
  clear h z e2 hS hl hs
  go_enter Try.func137, Try.ntmps137
  go_wp2_with fail
  (with_reducible refine (HI.out _).mono ?_); rintro e w1 ⟨rfl, rfl⟩
  rw [HD.out, HX.out]
  go_wp2_with fail
  refine reg.region_each (by kernel_rfl) reg.Ext (fun ri v w' => match ri with
      | 0 => v = .string S
      | 1 => v = .int .i64 a.length
      | 2 => v = .string ⟨a.toArray⟩
      | 3 => v = .string S
      | 4 => v = .int .i64 a.length
      | 5 => v = .string ⟨#[47]⟩
      | 6 => v = .int .i64 1
      | 7 => v = .int .i64 (a.length + 1)
      | 8 => v = .string ⟨b.toArray⟩
      | 9 => v = .string ⟨a.toArray⟩
      | 10 => v = .string ⟨b.toArray⟩
      | 11 => v = .bool true
      | _ => True) reg.Ext.refl reg.Ext.trans ?_ (by kernel_rfl) ?_ ?_
  ·
    intro i v w1 w2 h hx
    rcases i with _|_|_|_|_|_|_|_|_|_|_|_|i
    · exact h
    · exact h
    · exact h
    · exact h
    · exact h
    · exact h
    · exact h
    · exact h
    · exact h
    · exact h
    · exact h
    · exact h
    · trivial
  ·
    refine ⟨?_, ?_, ?_, ?_, ?_, ?_, ?_, ?_, ?_, ?_, ?_, ?_, trivial⟩
    · -- 0: slot 13 := Op.move t0
      intro ra w' hx hs
      have s0 : ra.eval (.tmp 0) = .string S := hs.1
      clear hs
      change Oper.wp _ _ ra w' _ _
      refine reg.wp_value (v := .string S) (w' := w') ?_ ⟨_, rfl, reg.Ext.refl _, rfl⟩
      intro ρ rc rf rg re
      rw [re] at s0
      simp [execOp, go_sem, rc, rf, rg, s0] <;> first | omega | rfl | decide
    · -- 1: slot 14 := Op.move t7
      intro ra w' hx hs
      have s7 : ra.eval (.tmp 7) = .int .i64 a.length := hs.1
      clear hs
      change Oper.wp _ _ ra w' _ _
      refine reg.wp_value (v := .int .i64 a.length) (w' := w') ?_ ⟨_, rfl, reg.Ext.refl _, rfl⟩
      intro ρ rc rf rg re
      rw [re] at s7
      simp [execOp, go_sem, rc, rf, rg, s7] <;> first | omega | rfl | decide
    · -- 2: slot 15 := Op.slice 9 t13 none (some t14) none
      intro ra w' hx hs
      have s13 : ra.eval (.tmp 13) = .string S := hs.1
      have s14 : ra.eval (.tmp 14) = .int .i64 a.length := hs.2.1
      clear hs
      change Oper.wp _ _ ra w' _ _
      refine reg.wp_value (v := .string ⟨a.toArray⟩) (w' := w') ?_ ⟨_, rfl, reg.Ext.refl _, rfl⟩
      intro ρ rc rf rg re
      rw [re] at s13 s14
      simp [execOp, go_sem, rc, rf, rg, s13, s14, e1, i1, z1] <;> first | omega | rfl | decide
    · -- 3: slot 16 := Op.move t0
      intro ra w' hx hs
      have s0 : ra.eval (.tmp 0) = .string S := hs.1
      clear hs
      change Oper.wp _ _ ra w' _ _
      refine reg.wp_value (v := .string S) (w' := w') ?_ ⟨_, rfl, reg.Ext.refl _, rfl⟩
      intro ρ rc rf rg re
      rw [re] at s0
      simp [execOp, go_sem, rc, rf, rg, s0] <;> first | omega | rfl | decide
    · -- 4: slot 17 := Op.move t7
      intro ra w' hx hs
      have s7 : ra.eval (.tmp 7) = .int .i64 a.length := hs.1
      clear hs
      change Oper.wp _ _ ra w' _ _
      refine reg.wp_value (v := .int .i64 a.length) (w' := w') ?_ ⟨_, rfl, reg.Ext.refl _, rfl⟩
      intro ρ rc rf rg re
      rw [re] at s7
      simp [execOp, go_sem, rc, rf, rg, s7] <;> first | omega | rfl | decide
    · -- 5: slot 18 := Op.move t1
      intro ra w' hx hs
      have s1 : ra.eval (.tmp 1) = .string ⟨#[47]⟩ := hs.1
      clear hs
      change Oper.wp _ _ ra w' _ _
      refine reg.wp_value (v := .string ⟨#[47]⟩) (w' := w') ?_ ⟨_, rfl, reg.Ext.refl _, rfl⟩
      intro ρ rc rf rg re
      rw [re] at s1
      simp [execOp, go_sem, rc, rf, rg, s1] <;> first | omega | rfl | decide
    · -- 6: slot 19 := Op.call { builtin len, args := #[t18], argTypes := #[9] }
      intro ra w' hx hs
      have s18 : ra.eval (.tmp 18) = .string ⟨#[47]⟩ := hs.1
      clear hs
      change Oper.wp _ _ ra w' _ _
      refine reg.wp_value (v := .int .i64 1) (w' := w') ?_ ⟨_, rfl, reg.Ext.refl _, rfl⟩
      intro ρ rc rf rg re
      rw [re] at s18
      simp [execOp, go_sem, rc, rf, rg, s18] <;> first | omega | rfl | decide
    · -- 7: slot 20 := Op.binOp BinOp.add 3 t17 t19 3
      intro ra w' hx hs
      have s17 : ra.eval (.tmp 17) = .int .i64 a.length := hs.1
      have s19 : ra.eval (.tmp 19) = .int .i64 1 := hs.2.1
      clear hs
      change Oper.wp _ _ ra w' _ _
      refine reg.wp_value (v := .int .i64 (a.length + 1)) (w' := w') ?_ ⟨_, rfl, reg.Ext.refl _, rfl⟩
      intro ρ rc rf rg re
      rw [re] at s17 s19
      simp [execOp, go_sem, rc, rf, rg, s17, s19, q1] <;> first | omega | rfl | decide
    · -- 8: slot 21 := Op.slice 9 t16 (some t20) none none
      intro ra w' hx hs
      have s16 : ra.eval (.tmp 16) = .string S := hs.1
      have s20 : ra.eval (.tmp 20) = .int .i64 (a.length + 1) := hs.2.1
      clear hs
      change Oper.wp _ _ ra w' _ _
      refine reg.wp_value (v := .string ⟨b.toArray⟩) (w' := w') ?_ ⟨_, rfl, reg.Ext.refl _, rfl⟩
      intro ρ rc rf rg re
      rw [re] at s16 s20
      simp [execOp, go_sem, rc, rf, rg, s16, s20, e2', i2, z1] <;> first | omega | rfl | decide
    · -- 9: slot 4 := Op.assign t15
      intro ra w' hx hs
      have s15 : ra.eval (.tmp 15) = .string ⟨a.toArray⟩ := hs.1
      clear hs
      change Oper.wp _ _ ra w' _ _
      refine reg.wp_value (v := .string ⟨a.toArray⟩) (w' := w') ?_ ⟨_, rfl, reg.Ext.refl _, rfl⟩
      intro ρ rc rf rg re
      rw [re] at s15
      simp [execOp, go_sem, rc, rf, rg, s15] <;> first | omega | rfl | decide
    · -- 10: slot 5 := Op.assign t21
      intro ra w' hx hs
      have s21 : ra.eval (.tmp 21) = .string ⟨b.toArray⟩ := hs.1
      clear hs
      change Oper.wp _ _ ra w' _ _
      refine reg.wp_value (v := .string ⟨b.toArray⟩) (w' := w') ?_ ⟨_, rfl, reg.Ext.refl _, rfl⟩
      intro ρ rc rf rg re
      rw [re] at s21
      simp [execOp, go_sem, rc, rf, rg, s21] <;> first | omega | rfl | decide
    · -- 11: slot 6 := Op.assign (const (Value.bool true))
      intro ra w' hx hs
      clear hs
      change Oper.wp _ _ ra w' _ _
      refine reg.wp_value (v := .bool true) (w' := w') ?_ ⟨_, rfl, reg.Ext.refl _, rfl⟩
      intro ρ rc rf rg re
      simp [execOp, go_sem, rc, rf, rg] <;> first | omega | rfl | decide
  intro rV w2 hx hf
  have ve0 : rV 0 = .string S := hf 0 (by decide)
  have ve1 : rV 1 = .int .i64 a.length := hf 1 (by decide)
  have ve2 : rV 2 = .string ⟨a.toArray⟩ := hf 2 (by decide)
  have ve3 : rV 3 = .string S := hf 3 (by decide)
  have ve4 : rV 4 = .int .i64 a.length := hf 4 (by decide)
  have ve5 : rV 5 = .string ⟨#[47]⟩ := hf 5 (by decide)
  have ve6 : rV 6 = .int .i64 1 := hf 6 (by decide)
  have ve7 : rV 7 = .int .i64 (a.length + 1) := hf 7 (by decide)
  have ve8 : rV 8 = .string ⟨b.toArray⟩ := hf 8 (by decide)
  have ve9 : rV 9 = .string ⟨a.toArray⟩ := hf 9 (by decide)
  have ve10 : rV 10 = .string ⟨b.toArray⟩ := hf 10 (by decide)
  have ve11 : rV 11 = .bool true := hf 11 (by decide)
  clear hf
  simp only [List.zipIdx_cons, List.zipIdx_nil, List.foldl_cons, List.foldl_nil, Act.put, Nat.reduceAdd, List.setIfInBounds_toArray, List.set_cons_succ, List.set_cons_zero, ve0, ve1, ve2, ve3, ve4, ve5, ve6, ve7, ve8, ve9, ve10, ve11]
  clear ve0 ve1 ve2 ve3 ve4 ve5 ve6 ve7 ve8 ve9 ve10 ve11
  clear rV
  go_wp2_with fail
  go_ret3
  exact ⟨rfl, Below.trans (Below.drew (Below.refl _ _)) hx⟩
set_option maxRecDepth 100000 in
theorem Cut_no (l : List UInt8) (w : World) (h : (47 : UInt8) ∉ l) (hs : l.length ≤ 9223372036854775807) :
    Calls Try.prog 126 #[.string ⟨l.toArray⟩, .string ⟨#[47]⟩] w fun e w' => e = .returned (.tuple #[.string ⟨l.toArray⟩, .string ⟨#[]⟩, .bool false]) ∧ Below w.heap.size w w' := by
  have HI := Lib.hid (fun W : World => sCut_no l W h hs)
  clear h
  go_enter Try.func126, Try.ntmps126
  go_wp2_with fail
  (with_reducible refine (HI.out _).mono ?_); rintro e w1 ⟨rfl, hb⟩
  go_wp2
  go_ret3
  exact ⟨rfl, hb⟩
set_option maxRecDepth 100000 in
theorem Cut_yes (a b : List UInt8) (w : World) (h : (47 : UInt8) ∉ a) (hs : (a ++ 47 :: b).length ≤ 9223372036854775807) :
    Calls Try.prog 126 #[.string ⟨(a ++ 47 :: b).toArray⟩, .string ⟨#[47]⟩] w fun e w' => e = .returned (.tuple #[.string ⟨a.toArray⟩, .string ⟨b.toArray⟩, .bool true]) ∧ Below w.heap.size w w' := by
  have HI := Lib.hid (fun W : World => sCut_yes a b W h hs)
  clear h
  generalize hS : (⟨(a ++ 47 :: b).toArray⟩ : ByteArray) = S at *
  clear hS hs
  go_enter Try.func126, Try.ntmps126
  go_wp2_with fail
  (with_reducible refine (HI.out _).mono ?_); rintro e w1 ⟨rfl, hb⟩
  go_wp2
  go_ret3
  exact ⟨rfl, hb⟩
end Go.Proofs.Ytifhnpkapgaboaa.path
