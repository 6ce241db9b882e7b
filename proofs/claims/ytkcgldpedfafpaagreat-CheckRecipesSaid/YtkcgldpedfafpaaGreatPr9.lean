/-
  Proved: what strings.Cut gives at one byte. Conditions: as each theorem says.
  Proved: small facts on a row of bytes in memory that is known byte by byte: read, written, turned into a text, made of a text. Conditions: as each theorem says.
  Proved: what digits and decimal return. Conditions: as each theorem says.
  Proved: what sized and Text return. Conditions: as each theorem says.
  Proved: what the document's own Text returns. Conditions: as each theorem says.
  Proved: what math.Mod returns. Conditions: as each theorem says.
  Proved: what powered returns. Conditions: as each theorem says.
  Proved: what OfText returns. Conditions: as each theorem says.
-/
import Derived.Test.YtkcgldpedfafpaaGreatPr6
import Derived.Test.YtkcgldpedfafpaaGreatPr7
import Derived.Test.YtkcgldpedfafpaaGreatPr8
import Derived.Test.YtkcgldpedfafpaaGreatRows
import Derived.WalkSpells
import Derived.Outline
import Derived.Lib.Hide
import Derived.Lib.IndexLaws
import Derived.WalkKit
import Derived.WalkLawsBesides
import Derived.Laws.BytesArg
import Derived.Laws.IdiomStrings
import Derived.Test.YtkcgldpedfafpaaGreatPr1
import Derived.Shelf.Strings.SlTrimAscii
import Derived.Deep.RegionWith
namespace Go.Proofs.YtkcgldpedfafpaaGreat.flt
open Go.RowKit
open heap
set_option linter.unusedVariables false
set_option linter.unusedSimpArgs false

theorem str_size (l : List UInt8) : (⟨l.toArray⟩ : ByteArray).size = l.length := by show l.toArray.size = _; simp
theorem index_no {c : UInt8} {l : List UInt8} (h : c ∉ l) : Lib.indexByte l c = -1 := by
 induction l with
 | nil => rfl
 | cons x r ih =>
  rw [List.mem_cons, not_or] at h
  have : (x == c) = false := by rw [beq_eq_false_iff_ne]; exact fun e => h.1 e.symm
  rw [Lib.indexByte, this, ih h.2]; rfl
theorem index_yes {c : UInt8} {a b : List UInt8} (h : c ∉ a) : Lib.indexByte (a ++ c :: b) c = a.length := by
 induction a with
 | nil => simp [Lib.indexByte]
 | cons x r ih =>
  rw [List.mem_cons, not_or] at h
  have h1 : (x == c) = false := by rw [beq_eq_false_iff_ne]; exact fun e => h.1 e.symm
  have h2 : ((r.length : Int) == -1) = false := by rw [beq_eq_false_iff_ne]; omega
  rw [List.cons_append, Lib.indexByte, h1, ih h.2]
  simp only [Bool.false_eq_true, if_false, h2, List.length_cons]
  omega
theorem ext_front (c : UInt8) (a b : List UInt8) : (⟨(a ++ c :: b).toArray⟩ : ByteArray).extract 0 a.length = ⟨a.toArray⟩ := by
 apply ByteArray.ext
 rw [ByteArray.data_extract]
 apply Array.toList_inj.1
 simp [List.extract_eq_take_drop]
theorem ext_back (c : UInt8) (a b : List UInt8) (n : Nat) (hn : n = (a ++ c :: b).length) : (⟨(a ++ c :: b).toArray⟩ : ByteArray).extract (a.length + 1) n = ⟨b.toArray⟩ := by
 subst hn
 apply ByteArray.ext
 rw [ByteArray.data_extract]
 apply Array.toList_inj.1
 simp only [List.extract_eq_take_drop, List.drop_append, Array.toList_extract]
 rw [List.drop_eq_nil_of_le (by omega), List.nil_append, show a.length + 1 - a.length = 1 by omega, List.drop_succ_cons, List.drop_zero, List.take_of_length_le (by simp; omega)]
set_option maxRecDepth 100000 in
theorem sCut_no (c : UInt8) (l : List UInt8) (w : World) (h : c ∉ l) (hs : l.length ≤ 9223372036854775807) :
  Calls Tryz.prog 88 #[.string ⟨l.toArray⟩, .string ⟨#[c]⟩] w fun e w' => e = .returned (.tuple #[.string ⟨l.toArray⟩, .string ⟨#[]⟩, .bool false]) ∧ Below w.heap.size w w' := by
 have HI := Lib.hid (fun W : World => Tryz.stringslite_Index_one ⟨l.toArray⟩ c W)
 have HX := Lib.hid (index_no h)
 clear h
 go_enter Tryz.func88, Tryz.ntmps88
 go_wp2_with fail
 (with_reducible refine (HI.out _).mono ?_); rintro e w1 ⟨rfl, rfl⟩
 rw [HX.out]
 go_wp2
 go_ret3
 exact ⟨rfl, Below.refl _ _⟩
set_option maxRecDepth 100000 in
theorem sCut_yes (c : UInt8) (a b : List UInt8) (w : World) (h : c ∉ a) (hs : (a ++ c :: b).length ≤ 9223372036854775807) :
  Calls Tryz.prog 88 #[.string ⟨(a ++ c :: b).toArray⟩, .string ⟨#[c]⟩] w fun e w' => e = .returned (.tuple #[.string ⟨a.toArray⟩, .string ⟨b.toArray⟩, .bool true]) ∧ Below w.heap.size w w' := by
 have HI := Lib.hid (fun W : World => Tryz.stringslite_Index_one ⟨(a ++ c :: b).toArray⟩ c W)
 have HX := Lib.hid (index_yes (b := b) h)
 have z := str_size (a ++ c :: b)
 have e1 := ext_front c a b
 have e2 := ext_back c a b _ rfl
 have hl : (a ++ c :: b).length = a.length + 1 + b.length := by simp; omega
 rw [hl] at z e2 hs
 have HD : Hid ((⟨(a ++ c :: b).toArray⟩ : ByteArray).data.toList = a ++ c :: b) := by simp [Hid]
 generalize hS : (⟨(a ++ c :: b).toArray⟩ : ByteArray) = S at *
 have z1 : a.length + 1 ≤ S.size := by omega
 have z2 : S.size ≤ 9223372036854775807 := by omega
 have e2' : S.extract (a.length + 1) S.size = ⟨b.toArray⟩ := by rw [z]; exact e2
 have q1 : IntKind.i64.wrap ((a.length : Int) + 1) = a.length + 1 := by rw [IntKind.wrap_i64]; omega
 have i1 : (a.length : Int) ≤ S.size := by omega
 have i2 : (a.length : Int) + 1 ≤ S.size := by omega
 clear h z e2 hS hl hs
 go_enter Tryz.func88, Tryz.ntmps88
 go_wp2_with fail
 (with_reducible refine (HI.out _).mono ?_); rintro e w1 ⟨rfl, rfl⟩
 rw [HD.out, HX.out]
 go_wp2_with fail
 refine reg.region_each (by kernel_rfl) reg.Ext (fun ri v w' => match ri with
   | 0 => v = .string S
   | 1 => v = .int .i64 a.length
   | 2 => v = .string ⟨a.toArray⟩
   | 3 => v = .string S
   | 4 => v = .int .i64 a.length
   | 5 => v = .string ⟨#[c]⟩
   | 6 => v = .int .i64 1
   | 7 => v = .int .i64 (a.length + 1)
   | 8 => v = .string ⟨b.toArray⟩
   | 9 => v = .string ⟨a.toArray⟩
   | 10 => v = .string ⟨b.toArray⟩
   | 11 => v = .bool true
   | _ => True) reg.Ext.refl reg.Ext.trans ?_ (by kernel_rfl) ?_ ?_
 ·
  intro i v w1 w2 h hx
  rcases i with _|_|_|_|_|_|_|_|_|_|_|_|i
  ·exact h
  ·exact h
  ·exact h
  ·exact h
  ·exact h
  ·exact h
  ·exact h
  ·exact h
  ·exact h
  ·exact h
  ·exact h
  ·exact h
  ·trivial
 ·
  refine ⟨?_, ?_, ?_, ?_, ?_, ?_, ?_, ?_, ?_, ?_, ?_, ?_, trivial⟩
  ·-- 0: slot 13 := Op.move t0
   intro ra w' hx hs
   have s0 : ra.eval (.tmp 0) = .string S := hs.1
   clear hs
   change Oper.wp _ _ ra w' _ _
   refine reg.wp_value (v := .string S) (w' := w') ?_ ⟨_, rfl, reg.Ext.refl _, rfl⟩
   intro ρ rc rf rg re
   rw [re] at s0
   simp [execOp, go_sem, rc, rf, rg, s0] <;> first | omega | rfl | decide
  ·-- 1: slot 14 := Op.move t7
   intro ra w' hx hs
   have s7 : ra.eval (.tmp 7) = .int .i64 a.length := hs.1
   clear hs
   change Oper.wp _ _ ra w' _ _
   refine reg.wp_value (v := .int .i64 a.length) (w' := w') ?_ ⟨_, rfl, reg.Ext.refl _, rfl⟩
   intro ρ rc rf rg re
   rw [re] at s7
   simp [execOp, go_sem, rc, rf, rg, s7] <;> first | omega | rfl | decide
  ·-- 2: slot 15 := Op.slice 9 t13 none (some t14) none
   intro ra w' hx hs
   have s13 : ra.eval (.tmp 13) = .string S := hs.1
   have s14 : ra.eval (.tmp 14) = .int .i64 a.length := hs.2.1
   clear hs
   change Oper.wp _ _ ra w' _ _
   refine reg.wp_value (v := .string ⟨a.toArray⟩) (w' := w') ?_ ⟨_, rfl, reg.Ext.refl _, rfl⟩
   intro ρ rc rf rg re
   rw [re] at s13 s14
   simp [execOp, go_sem, rc, rf, rg, s13, s14, e1, i1, z1] <;> first | omega | rfl | decide
  ·-- 3: slot 16 := Op.move t0
   intro ra w' hx hs
   have s0 : ra.eval (.tmp 0) = .string S := hs.1
   clear hs
   change Oper.wp _ _ ra w' _ _
   refine reg.wp_value (v := .string S) (w' := w') ?_ ⟨_, rfl, reg.Ext.refl _, rfl⟩
   intro ρ rc rf rg re
   rw [re] at s0
   simp [execOp, go_sem, rc, rf, rg, s0] <;> first | omega | rfl | decide
  ·-- 4: slot 17 := Op.move t7
   intro ra w' hx hs
   have s7 : ra.eval (.tmp 7) = .int .i64 a.length := hs.1
   clear hs
   change Oper.wp _ _ ra w' _ _
   refine reg.wp_value (v := .int .i64 a.length) (w' := w') ?_ ⟨_, rfl, reg.Ext.refl _, rfl⟩
   intro ρ rc rf rg re
   rw [re] at s7
   simp [execOp, go_sem, rc, rf, rg, s7] <;> first | omega | rfl | decide
  ·-- 5: slot 18 := Op.move t1
   intro ra w' hx hs
   have s1 : ra.eval (.tmp 1) = .string ⟨#[c]⟩ := hs.1
   clear hs
   change Oper.wp _ _ ra w' _ _
   refine reg.wp_value (v := .string ⟨#[c]⟩) (w' := w') ?_ ⟨_, rfl, reg.Ext.refl _, rfl⟩
   intro ρ rc rf rg re
   rw [re] at s1
   simp [execOp, go_sem, rc, rf, rg, s1] <;> first | omega | rfl | decide
  ·-- 6: slot 19 := Op.call { builtin len, args := #[t18], argTypes := #[9] }
   intro ra w' hx hs
   have s18 : ra.eval (.tmp 18) = .string ⟨#[c]⟩ := hs.1
   clear hs
   change Oper.wp _ _ ra w' _ _
   refine reg.wp_value (v := .int .i64 1) (w' := w') ?_ ⟨_, rfl, reg.Ext.refl _, rfl⟩
   intro ρ rc rf rg re
   rw [re] at s18
   simp [execOp, go_sem, rc, rf, rg, s18] <;> first | omega | rfl | decide
  ·-- 7: slot 20 := Op.binOp BinOp.add 3 t17 t19 3
   intro ra w' hx hs
   have s17 : ra.eval (.tmp 17) = .int .i64 a.length := hs.1
   have s19 : ra.eval (.tmp 19) = .int .i64 1 := hs.2.1
   clear hs
   change Oper.wp _ _ ra w' _ _
   refine reg.wp_value (v := .int .i64 (a.length + 1)) (w' := w') ?_ ⟨_, rfl, reg.Ext.refl _, rfl⟩
   intro ρ rc rf rg re
   rw [re] at s17 s19
   simp [execOp, go_sem, rc, rf, rg, s17, s19, q1] <;> first | omega | rfl | decide
  ·-- 8: slot 21 := Op.slice 9 t16 (some t20) none none
   intro ra w' hx hs
   have s16 : ra.eval (.tmp 16) = .string S := hs.1
   have s20 : ra.eval (.tmp 20) = .int .i64 (a.length + 1) := hs.2.1
   clear hs
   change Oper.wp _ _ ra w' _ _
   refine reg.wp_value (v := .string ⟨b.toArray⟩) (w' := w') ?_ ⟨_, rfl, reg.Ext.refl _, rfl⟩
   intro ρ rc rf rg re
   rw [re] at s16 s20
   simp [execOp, go_sem, rc, rf, rg, s16, s20, e2', i2, z1] <;> first | omega | rfl | decide
  ·-- 9: slot 4 := Op.assign t15
   intro ra w' hx hs
   have s15 : ra.eval (.tmp 15) = .string ⟨a.toArray⟩ := hs.1
   clear hs
   change Oper.wp _ _ ra w' _ _
   refine reg.wp_value (v := .string ⟨a.toArray⟩) (w' := w') ?_ ⟨_, rfl, reg.Ext.refl _, rfl⟩
   intro ρ rc rf rg re
   rw [re] at s15
   simp [execOp, go_sem, rc, rf, rg, s15] <;> first | omega | rfl | decide
  ·-- 10: slot 5 := Op.assign t21
   intro ra w' hx hs
   have s21 : ra.eval (.tmp 21) = .string ⟨b.toArray⟩ := hs.1
   clear hs
   change Oper.wp _ _ ra w' _ _
   refine reg.wp_value (v := .string ⟨b.toArray⟩) (w' := w') ?_ ⟨_, rfl, reg.Ext.refl _, rfl⟩
   intro ρ rc rf rg re
   rw [re] at s21
   simp [execOp, go_sem, rc, rf, rg, s21] <;> first | omega | rfl | decide
  ·-- 11: slot 6 := Op.assign (const (Value.bool true))
   intro ra w' hx hs
   clear hs
   change Oper.wp _ _ ra w' _ _
   refine reg.wp_value (v := .bool true) (w' := w') ?_ ⟨_, rfl, reg.Ext.refl _, rfl⟩
   intro ρ rc rf rg re
   simp [execOp, go_sem, rc, rf, rg] <;> first | omega | rfl | decide
 intro rV w2 hx hf
 have ve0 : rV 0 = .string S := hf 0 (by decide)
 have ve1 : rV 1 = .int .i64 a.length := hf 1 (by decide)
 have ve2 : rV 2 = .string ⟨a.toArray⟩ := hf 2 (by decide)
 have ve3 : rV 3 = .string S := hf 3 (by decide)
 have ve4 : rV 4 = .int .i64 a.length := hf 4 (by decide)
 have ve5 : rV 5 = .string ⟨#[c]⟩ := hf 5 (by decide)
 have ve6 : rV 6 = .int .i64 1 := hf 6 (by decide)
 have ve7 : rV 7 = .int .i64 (a.length + 1) := hf 7 (by decide)
 have ve8 : rV 8 = .string ⟨b.toArray⟩ := hf 8 (by decide)
 have ve9 : rV 9 = .string ⟨a.toArray⟩ := hf 9 (by decide)
 have ve10 : rV 10 = .string ⟨b.toArray⟩ := hf 10 (by decide)
 have ve11 : rV 11 = .bool true := hf 11 (by decide)
 clear hf
 simp only [List.zipIdx_cons, List.zipIdx_nil, List.foldl_cons, List.foldl_nil, Act.put, Nat.reduceAdd, List.setIfInBounds_toArray, List.set_cons_succ, List.set_cons_zero, ve0, ve1, ve2, ve3, ve4, ve5, ve6, ve7, ve8, ve9, ve10, ve11]
 clear ve0 ve1 ve2 ve3 ve4 ve5 ve6 ve7 ve8 ve9 ve10 ve11
 clear rV
 go_wp2_with fail
 go_ret3
 exact ⟨rfl, Below.trans (Below.drew (Below.refl _ _)) hx⟩
set_option maxRecDepth 100000 in
theorem Cut_no (c : UInt8) (l : List UInt8) (w : World) (h : c ∉ l) (hs : l.length ≤ 9223372036854775807) :
  Calls Tryz.prog 77 #[.string ⟨l.toArray⟩, .string ⟨#[c]⟩] w fun e w' => e = .returned (.tuple #[.string ⟨l.toArray⟩, .string ⟨#[]⟩, .bool false]) ∧ Below w.heap.size w w' := by
 have HI := Lib.hid (fun W : World => sCut_no c l W h hs)
 clear h
 go_enter Tryz.func77, Tryz.ntmps77
 go_wp2_with fail
 (with_reducible refine (HI.out _).mono ?_); rintro e w1 ⟨rfl, hb⟩
 go_wp2
 go_ret3
 exact ⟨rfl, hb⟩
set_option maxRecDepth 100000 in
theorem Cut_yes (c : UInt8) (a b : List UInt8) (w : World) (h : c ∉ a) (hs : (a ++ c :: b).length ≤ 9223372036854775807) :
  Calls Tryz.prog 77 #[.string ⟨(a ++ c :: b).toArray⟩, .string ⟨#[c]⟩] w fun e w' => e = .returned (.tuple #[.string ⟨a.toArray⟩, .string ⟨b.toArray⟩, .bool true]) ∧ Below w.heap.size w w' := by
 have HI := Lib.hid (fun W : World => sCut_yes c a b W h hs)
 clear h
 generalize hS : (⟨(a ++ c :: b).toArray⟩ : ByteArray) = S at *
 clear hS hs
 go_enter Tryz.func77, Tryz.ntmps77
 go_wp2_with fail
 (with_reducible refine (HI.out _).mono ?_); rintro e w1 ⟨rfl, hb⟩
 go_wp2
 go_ret3
 exact ⟨rfl, hb⟩
end Go.Proofs.YtkcgldpedfafpaaGreat.flt

namespace Go.Proofs.YtkcgldpedfafpaaGreat.row
open Go.RowKit

def byteV (c : UInt8) : Value := .int .u8 (c.toNat : Int)
/-- Block g begins with the bytes l; they may be written. -/
def RowIs (w : World) (g : Nat) (l : List UInt8) : Prop :=
 ∃ cs lo hi, w.heap[g]? = some (.cells cs 5 (lo, hi)) ∧ l.length ≤ lo + (if hi ≤ lo then l.length else 0) ∧ l.length ≤ cs.size ∧ ∀ i, i < l.length → cs[i]? = some (byteV (l.getD i 0))
theorem RowIs.cell {w : World} {g : Nat} {l : List UInt8} (h : RowIs w g l) (i : Nat) (hi : i < l.length) : w.cell? ⟨g, i, none⟩ = some (byteV (l.getD i 0)) := by
 obtain ⟨cs, lo, hi', h1, _, _, h2⟩ := h
 simp only [World.cell?, h1]
 simpa using h2 i hi
theorem RowIs.free {w : World} {g : Nat} {l : List UInt8} (h : RowIs w g l) (i : Nat) (hi : i < l.length) : w.frozen? ⟨g, i, none⟩ = false := by
 obtain ⟨cs, lo, hi', h1, h2, _, _⟩ := h
 simp only [World.frozen?, h1]
 split at h2
 ·simp; omega
 ·simp; omega
theorem RowIs.lt {w : World} {g : Nat} {l : List UInt8} (h : RowIs w g l) : g < w.heap.size := by
 obtain ⟨cs, lo, hi', h1, _⟩ := h
 exact (Array.getElem?_eq_some_iff.1 h1).1
theorem RowIs.set {w : World} {g : Nat} {l : List UInt8} (h : RowIs w g l) (i : Nat) (c : UInt8) : RowIs (w.setCell ⟨g, i, none⟩ (byteV c)) g (l.set i c) := by
 obtain ⟨cs, lo, hi', h1, h2, h3, h4⟩ := h
 refine ⟨cs.setIfInBounds i (byteV c), lo, hi', ?_, by simpa using h2, by simpa using h3, fun j hj => ?_⟩
 ·simp [World.setCell, Array.getElem?_modify, h1]
 ·rw [List.length_set] at hj
  rw [Array.getElem?_setIfInBounds]
  by_cases e : i = j
  ·subst e
   have : i < cs.size := by omega
   simp [this, hj]
  ·rw [if_neg e, h4 j hj]
   simp [List.getElem?_set, e]
theorem RowIs.of_block {w w' : World} {g : Nat} {l : List UInt8} (h : RowIs w g l) (hb : w'.heap[g]? = w.heap[g]?) : RowIs w' g l := by
 obtain ⟨cs, lo, hi', h1, h2⟩ := h
 exact ⟨cs, lo, hi', by rw [hb, h1], h2⟩
theorem RowIs.below {w w' : World} {B g : Nat} {l : List UInt8} (h : RowIs w g l) (hb : Below B w w') (hg : g < B) : RowIs w' g l := h.of_block (hb.block g hg)
/-- string(b) -/
theorem RowIs.conv {w : World} {g : Nat} {l : List UInt8} (h : RowIs w g l) (cap : Nat) :
  (convert 108 9 (.slice (some ⟨g, 0, none⟩) l.length cap)).run Tryz.prog w = .ok (.string ⟨l.toArray⟩) w := by
 refine run_convert_bytes_back w 108 9 5 ⟨g, 0, none⟩ cap l Tryz.underlying108 Tryz.underlying5 Tryz.underlying9 (fun j hj => ?_)
 have e : (⟨g, 0, none⟩ : Addr).add j = ⟨g, j, none⟩ := by unfold Addr.add; split <;> simp_all
 rw [e, h.cell j hj]
 simp [byteV, hj]
end Go.Proofs.YtkcgldpedfafpaaGreat.row

namespace Go.Proofs.YtkcgldpedfafpaaGreat.flt
open Go.RowKit Ieee
open num (ret_pair)
open row (RowIs byteV)
set_option linter.unusedVariables false
set_option maxRecDepth 100000

def isD (c : UInt8) : Bool := decide (48 ≤ c.toNat) && decide (c.toNat ≤ 57)
def digB (l : List UInt8) : Bool := !l.isEmpty && l.all isD
/-- The number that a row of digits is. -/
def numL (l : List UInt8) : Nat := l.foldl (fun x c => x * 10 + (c.toNat - 48)) 0
theorem numL_snoc (l : List UInt8) (c : UInt8) : numL (l ++ [c]) = numL l * 10 + (c.toNat - 48) := by unfold numL; rw [List.foldl_append]; rfl
theorem numL_lt (l : List UInt8) (h : l.all isD = true) : numL l < 10 ^ l.length := by
 generalize hn : l.length = n
 induction n generalizing l with
 | zero => rw [List.length_eq_zero_iff.1 hn]; decide
 | succ n ih =>
  rcases List.eq_nil_or_concat l with rfl | ⟨r, c, rfl⟩
  ·cases hn
  ·rw [List.concat_eq_append] at *
   rw [numL_snoc]
   rw [List.all_append, Bool.and_eq_true] at h
   have h1 := ih r h.1 (by simpa using hn)
   have h2 : isD c = true := by simpa using h.2
   unfold isD at h2
   simp only [Bool.and_eq_true, decide_eq_true_iff] at h2
   rw [Nat.pow_succ]
   omega
def decOk (f b : List UInt8) (pt : Bool) : Bool := digB f && (!pt || digB b) && decide (f.length + b.length ≤ 15)
def decQ (f b : List UInt8) : Nat := (fop .quo (fl (numL (f ++ b))) (fl (10 ^ b.length))).getD 0
def decV (f b : List UInt8) (pt : Bool) : Nat := if decOk f b pt then decQ f b else 0
theorem ten_fl : (4621819117588971520 : Nat) = fl 10 := by decide +kernel
theorem zero_fl : (0 : Nat) = fl 0 := by decide +kernel
theorem one_fl : (4607182418800017408 : Nat) = fl 1 := by decide +kernel
theorem quot_num (s t : Bool) (m n : Nat) (i j : Int) (hn : n ≠ 0) : ∃ M P, (Datum.number s m i).quotient 54 (.number t n j) = some (.number (s ^^ t) M P) := by
 simp only [Datum.quotient, hn, if_false]
 exact ⟨_, _, rfl⟩
theorem quo_some (a b : Nat) (ha : fin a) (hb : b < INF) (h0 : 0 < b) : ∃ r, fop .quo a b = some r ∧ r < 18446744073709551616 := by
 have hs : sg b ≠ 0 := by
  intro h
  have := mg_lt h0
  rw [← mg_def b, h, Nat.zero_mul] at this
  omega
 obtain ⟨M, P, h⟩ := quot_num (sgn a) false (sg (rung a)) (sg b) (-1074 + (pl (rung a) : Nat)) (-1074 + (pl b : Nat)) hs
 rw [← read_fin a ha, ← pread b hb] at h
 have h2 : fop .quo a b = some (double.nearest (sgn a ^^ false) M P) := by
  show ((double.read a).quotient 54 (double.read b)).map double.write = _
  rw [h]
  rfl
 exact ⟨_, h2, fop_lt h2⟩
theorem fl_pos (n : Nat) (h0 : 0 < n) (h : n ≤ 9007199254740992) : fl n < INF ∧ 0 < fl n := by
 have h1 := fin_fl n h
 have h2 := sgn_fl n
 have h3 : fl n < INF := by
  have := h1.2
  unfold rung at this
  unfold sgn at h2
  have h4 := of_decide_eq_false h2
  unfold INF
  omega
 refine ⟨h3, ?_⟩
 rcases Nat.eq_zero_or_pos (fl n) with h4 | h4
 ·exfalso
  have := val_fl n h
  rw [h4] at this
  have h5 : val 0 = 0 := by unfold val rung; rw [Nat.zero_mod, mg_zero]; split <;> rfl
  rw [h5] at this
  have h6 : 0 < n * 2 ^ PP := Nat.mul_pos h0 (Nat.two_pow_pos _)
  omega
 ·exact h4
theorem pow_le15 (k : Nat) (h : k ≤ 15) : 10 ^ k ≤ 1000000000000000 := by
 have : 10 ^ k ≤ 10 ^ 15 := Nat.pow_le_pow_right (by omega) h
 exact this
theorem isD_at {L : List UInt8} (h : L.all isD = true) (k : Nat) (hk : k < L.length) : 48 ≤ (L.getD k 0).toNat ∧ (L.getD k 0).toNat ≤ 57 := by
 have h1 : isD (L.getD k 0) = true := by
  rw [List.all_eq_true] at h
  apply h
  rw [List.getD_eq_getElem?_getD, List.getElem?_eq_getElem hk]
  exact List.getElem_mem hk
 unfold isD at h1
 simpa using h1
theorem take_getD (L : List UInt8) (k : Nat) (hk : k < L.length) : L.take (k + 1) = L.take k ++ [L.getD k 0] := by
 rw [List.take_succ_eq_append_getElem hk, List.getD_eq_getElem?_getD, List.getElem?_eq_getElem hk]
 rfl
theorem numL_bd14 (L : List UInt8) (h : L.all isD = true) (hl : L.length ≤ 15) (k : Nat) (hk : k < L.length) : numL (L.take k) < 100000000000000 := by
 have h1 : (L.take k).all isD = true := by
  rw [List.all_eq_true] at h ⊢
  exact fun x hx => h x (List.mem_of_mem_take hx)
 have h2 := numL_lt _ h1
 rw [List.length_take, Nat.min_eq_left (by omega)] at h2
 have : 10 ^ k ≤ 10 ^ 14 := Nat.pow_le_pow_right (by omega) (by omega)
 omega
end Go.Proofs.YtkcgldpedfafpaaGreat.flt

namespace Go.Proofs.YtkcgldpedfafpaaGreat.flt
open Go.RowKit Ieee
open num (U64 decS decL decF_len rDec_any ret_str ret_pair bcell)
set_option linter.unusedVariables false
set_option maxRecDepth 100000

theorem decS_size (x : Nat) : (decS x).size ≤ 20 := by
 have := (decF_len 19 x).2
 show (num.decF 19 x).toArray.size ≤ 20
 rw [List.size_toArray]; exact this
/-- The text of a whole number with its sign. -/
def szS (x : Int) : ByteArray := if x < 0 then (⟨#[45]⟩ : ByteArray) ++ decS x.natAbs else decS x.natAbs
theorem szS_pos (x : Int) (h : 0 ≤ x) : szS x = decS x.natAbs := by unfold szS; rw [if_neg (by omega)]
theorem szS_neg (x : Int) (h : x < 0) : szS x = (⟨#[45]⟩ : ByteArray) ++ decS x.natAbs := by unfold szS; rw [if_pos h]
theorem szS_size (x : Int) : (szS x).size ≤ 21 := by
 have := decS_size x.natAbs
 unfold szS
 split
 ·rw [ByteArray.size_append]; show 1 + _ ≤ 21; omega
 ·omega
/-- The text of a number that is not below zero. -/
def txtM (a : Nat) : ByteArray := decS (strip 64 (sg a)).1 ++ ⟨#[112]⟩ ++ szS ((pl a : Int) - 1074 + (strip 64 (sg a)).2)
def txtP (a : Nat) : ByteArray := if 9218868437227405312 ≤ a then ⟨#[105, 110, 102]⟩ else if isW a then szS (wholeN a) else txtM a
def txt (a : Nat) : ByteArray := if nanB a then ⟨#[110, 97, 110]⟩ else if sgn a then (⟨#[45]⟩ : ByteArray) ++ txtP (ng a) else txtP a
theorem txtM_size (a : Nat) : (txtM a).size ≤ 42 := by
 have h1 := decS_size (strip 64 (sg a)).1
 have h2 := szS_size ((pl a : Int) - 1074 + (strip 64 (sg a)).2)
 unfold txtM
 rw [ByteArray.size_append, ByteArray.size_append]
 show _ + 1 + _ ≤ 42
 omega
theorem txtP_size (a : Nat) : (txtP a).size ≤ 42 := by
 have h1 := txtM_size a
 have h2 := szS_size (wholeN a)
 unfold txtP
 split
 ·show 3 ≤ 42; omega
 ·split <;> omega
theorem fin_pos (a : Nat) (h : a < 9218868437227405312) : fin a ∧ rung a = a ∧ sgn a = false := by
 unfold fin rung sgn
 refine ⟨by omega, by omega, decide_eq_false (by omega)⟩
theorem fin_nan (a : Nat) (h : fin a) : nanB a = false := by unfold nanB; rw [read_fin a h]; rfl
theorem nan_pos (a : Nat) (h : a < 9223372036854775808) (hn : nanB a = false) : a ≤ 9218868437227405312 := by
 rcases fin_cases a (by omega) with hf | ⟨h1, h2⟩ | ⟨h1, h2⟩
 ·have := hf.2; unfold rung at this; omega
 ·unfold rung at h1; omega
 ·rw [h2] at hn; cases hn
theorem inf_nan : nanB 9218868437227405312 = false := by decide
theorem gt_max (a : Nat) (h : a ≤ 9218868437227405312) : (double.order a 9218868437227405311 == some .gt) = decide (9218868437227405312 ≤ a) := by
 by_cases he : a = 9218868437227405312
 ·subst he; decide +kernel
 ·have h1 := fin_pos a (by omega)
  have h2 := fin_pos 9218868437227405311 (by omega)
  rw [order_fin _ _ h1.1 h2.1]
  have hv : val a ≤ val 9218868437227405311 := by
   unfold val
   rw [h1.2.1, h1.2.2, h2.2.1, h2.2.2]
   simp only [Bool.false_eq_true, if_false]
   have := mg_lt_iff 9218868437227405311 a
   omega
  rw [Bool.eq_iff_iff, decide_eq_true_iff]
  constructor
  ·intro hh
   have : compare (val a) (val 9218868437227405311) = .gt := by simpa using hh
   have h3 := (cmp_le (val a) (val 9218868437227405311)).2 hv
   rw [this] at h3
   simp at h3
  ·intro hh; omega
theorem whole_zero : isW 0 = true := by decide +kernel
theorem wholeN_bd (a : Nat) (h : a < 18446744073709551616) : -9007199254740992 ≤ wholeN a ∧ wholeN a ≤ 9007199254740992 := by
 unfold wholeN
 split
 ·rename_i hw
  have : inW a = true := by unfold isW at hw; exact (Bool.and_eq_true_iff.1 hw).1
  have := tr_le a h this
  unfold trI
  split <;> omega
 ·omega
theorem strip_le (f m : Nat) : (strip f m).1 ≤ m ∧ (strip f m).2 ≤ f := by
 induction f generalizing m with
 | zero => exact ⟨Nat.le_refl _, Nat.le_refl _⟩
 | succ f ih =>
  unfold strip
  split
  ·have := ih (m / 2); exact ⟨by simp only; omega, by simp only; omega⟩
  ·exact ⟨Nat.le_refl _, by simp⟩
theorem pl_le (a : Nat) (h : a < 9218868437227405312) : pl a ≤ 2045 := by unfold pl; omega
theorem txtM_bd (a : Nat) (h : a < 9218868437227405312) : (strip 64 (sg a)).1 < 9007199254740992 ∧ -9007199254740992 ≤ (pl a : Int) - 1074 + (strip 64 (sg a)).2 ∧ (pl a : Int) - 1074 + (strip 64 (sg a)).2 ≤ 9007199254740992 := by
 have h1 := strip_le 64 (sg a)
 have h2 := sg_lt a
 have h3 := pl_le a h
 omega
end Go.Proofs.YtkcgldpedfafpaaGreat.flt

namespace Go.Proofs.YtkcgldpedfafpaaGreat.flt
open Go.RowKit Ieee
open num (U64 decS decL decF_len rDec_any ret_str ret_pair bcell)
set_option linter.unusedVariables false
set_option maxRecDepth 100000
attribute [local go_sem] run_bits run_frombits

theorem endless_any (a : Nat) (w : World) (h : a < 18446744073709551616) : Calls Tryz.prog 94 #[fv a] w fun e w' => e = .returned (.bool (double.order (rung a) 9218868437227405311 == some .gt)) ∧ w = w' := by
 have HS := Lib.hid (fun W => size_any a W h)
 show Calls Tryz.prog 94 #[fv a] w fun e w' => e = .returned (.bool (double.order (a % 9223372036854775808) 9218868437227405311 == some .gt)) ∧ w = w'
 generalize a % 9223372036854775808 = r at *
 go_enter Tryz.func94, Tryz.ntmps94
 go_wp2_with (go_at_call 104; refine (HS.out _).mono ?_; rintro e w1 ⟨rfl, rfl⟩)
 go_ret
 exact ⟨rfl, rfl⟩
theorem mod_two (m : Nat) : (m : Int) % 2 = ((m % 2 : Nat) : Int) := by omega
theorem szN (D : ByteArray) (x : Int) (h : x < 0) : D ++ (⟨#[112, 45]⟩ : ByteArray) ++ decS x.natAbs = D ++ (⟨#[112]⟩ : ByteArray) ++ szS x := by
 rw [szS_neg x h]
 apply ByteArray.ext
 apply Array.toList_inj.1
 simp [ByteArray.data_append]
theorem rText_pos (a : Nat) (w : World) (h : a < 9223372036854775808) (hn : nanB a = false) : Calls Tryz.prog 87 #[fv a] w fun e w' => e = .returned (.string (txtP a)) ∧ Below w.heap.size w w' := by
 have hle := nan_pos a h hn
 have hg := gt_max a hle
 have ho2 := neR (a := a) (c := a) (b := true) (by unfold eqB; rw [order_self, hn]; rfl)
 have hbl : decide (9223372036854775808 ≤ a) = false := decide_eq_false (by omega)
 have HB := Lib.hid (fun W => rbelow_any a W (by omega))
 have HE := Lib.hid (fun W => endless_any a W (by omega))
 have hru : rung a = a := by unfold rung; omega
 rw [hru] at HE
 rw [hbl] at HB
 have HWh := Lib.hid (fun W => rWhole_any a W (by omega))
 by_cases hi : 9218868437227405312 ≤ a
 ·have HT : Hid (txtP a = ⟨#[105, 110, 102]⟩) := by unfold Hid txtP; rw [if_pos hi]
  rw [decide_eq_true hi] at hg
  rw [hg] at HE
  clear hi hle hn h hbl HWh hg hru
  simp only [Bool.not_true] at ho2
  go_enter Tryz.func87, Tryz.ntmps87
  go_wp2_with (first | (go_at_call 93; refine (HB.out _).mono ?_; rintro e w1 ⟨rfl, rfl⟩) | (go_at_call 94; refine (HE.out _).mono ?_; rintro e w1 ⟨rfl, rfl⟩))
  go_ret
  exact ⟨ret_str HT.out.symm, Below.refl _ _⟩
 ·rw [decide_eq_false hi] at hg
  rw [hg] at HE
  simp only [Bool.not_true] at ho2
  cases hW : isW a
  ·have HT : Hid (txtP a = txtM a) := by unfold Hid txtP; rw [if_neg hi, hW]; rfl
   have h0 : 0 < a := by
    rcases Nat.eq_zero_or_pos a with rfl | h0
    ·rw [whole_zero] at hW; cases hW
    ·exact h0
   have hbd := txtM_bd a (by omega)
   unfold txtM at HT
   rw [hW] at HWh
   have h1 : (a : Int) % 4503599627370496 = ((a % 4503599627370496 : Nat) : Int) := by omega
   have hq : ((a : Int) / 4503599627370496) = ((a / 4503599627370496 : Nat) : Int) := by omega
   have hx : a / 4503599627370496 ≤ 2046 := by omega
   have hz : a / 4503599627370496 = 0 → sg a = a % 4503599627370496 ∧ (pl a : Int) = 0 := fun h => ⟨(sg_zero a h).1, by rw [(sg_zero a h).2]; rfl⟩
   have hp := sg_pos a
   have hs0 : a / 4503599627370496 = 0 → 0 < a % 4503599627370496 := by omega
   have hs1 : a % 4503599627370496 < 4503599627370496 := by omega
   have hm1 := (txtM_bd a (by omega)).1
   generalize a % 4503599627370496 = m at *
   generalize a / 4503599627370496 = x at *
   generalize sg a = s at *
   generalize (pl a : Int) = p at *
   obtain ⟨E0, hE0⟩ : ∃ E0 : Int, E0 = p - 1074 := ⟨_, rfl⟩
   rw [← hE0] at HT hp
   have HM1 := Lib.hid hm1
   have H1 := Lib.hid h1
   by_cases hx0 : x = 0
   ·subst hx0
    obtain ⟨rfl, hp0⟩ := hz rfl
    obtain rfl : E0 = -1074 := by omega
    have hm0 := hs0 rfl
    have HS := Lib.hid (StripAt.start (s := s) hm0 (by omega))
    clear hz hp hs0 hp0 hx hE0 hi hle hn h hbl hW h0 hg hru hm1 hbd h1
    replace hq : ((a : Int) / 4503599627370496) = 0 := hq
    go_enter Tryz.func87, Tryz.ntmps87
    go_wp2_with (first | (go_at_call 93; refine (HB.out _).mono ?_; rintro e w1 ⟨rfl, rfl⟩) | (go_at_call 94; refine (HE.out _).mono ?_; rintro e w1 ⟨rfl, rfl⟩) | (go_at_call 95; refine (HWh.out _).mono ?_; rintro e w1 ⟨rfl, rfl⟩))
    go_loop [7, 6] (fun y i => ∃ m' f k : Nat, y = .int .u64 m' ∧ i = .int .i64 (-1074 + (k : Int)) ∧ StripAt s m' f k) (fun y _ => (intOf y).toNat)
    case atStart => exact ⟨s, 64, 0, by rw [H1.out], rfl, HS.out⟩
    case round =>
     obtain ⟨m', f, k, rfl, rfl, hst⟩ := hrel
     have hk : k ≤ 64 := hst.2.2.1
     have hm : 0 < m' := hst.2.1
     have ha1 := mod_two m'
     have hwr := num.wrap_div m' 2 hst.2.2.2.2.2
     by_cases he : m' % 2 = 0
     ·obtain ⟨f', h'⟩ := hst.step he
      have H' := Lib.hid h'
      replace ha1 : (m' : Int) % 2 = 0 := by rw [ha1, he]; rfl
      replace hwr : IntKind.u64.wrap ((m' : Int) / 2) = ((m' / 2 : Nat) : Int) := hwr
      clear he hst h'
      go_wp2
      go_round
      case rel => exact ⟨m' / 2, f', k + 1, rfl, by go_num, H'.out⟩
      case measure => simp [intOf]; omega
     ·have he1 : m' % 2 = 1 := by omega
      have hst2 := hst.stop he1
      replace ha1 : (m' : Int) % 2 = 1 := by rw [ha1, he1]; rfl
      have hm2 := HM1.out
      rw [hst2.1] at HT hm2
      rw [hst2.2] at HT
      clear he he1 hst hst2 HM1 hwr
      have HD := Lib.hid (fun W => rDec_any m' W (show m' < 18446744073709551616 by omega))
      have hs1 := decS_size m'
      have hZ0 := fun W => rDec_any (-1074 + (k : Int)).natAbs W (show (-1074 + (k : Int)).natAbs < 18446744073709551616 by omega)
      have HZ := Lib.hid hZ0
      have hs2 := decS_size (-1074 + (k : Int)).natAbs
      by_cases hng : -1074 + (k : Int) < 0
      ·have hneg : decide (-1074 + (k : Int) < 0) = true := decide_eq_true hng
       have hw : IntKind.u64.wrap (-(-1074 + (k : Int))) = ((-1074 + (k : Int)).natAbs : Int) := by rw [IntKind.wrap_u64]; omega
       have HC := Lib.hid (szN (decS m') (-1074 + (k : Int)) hng)
       have hs3 : (decS m' ++ (⟨#[112, 45]⟩ : ByteArray)).size ≤ 22 := by rw [ByteArray.size_append]; show _ + 2 ≤ 22; omega
       generalize decS m' = D at *
       generalize (-1074 + (k : Int)).natAbs = N at *
       generalize decS N = Z at *
       generalize hDD : D ++ (⟨#[112, 45]⟩ : ByteArray) = DD at *
       have HDD := Lib.hid hDD
       clear hZ0
       go_wp2_with fail
       refine (HD.out _).mono ?_; rintro e w1 ⟨rfl, hb1⟩
       go_wp2_with fail
       refine (HZ.out _).mono ?_; rintro e w2 ⟨rfl, hb2⟩
       go_wp2_with fail
       go_ret
       exact ⟨ret_str (by rw [HT.out, ← HC.out]), hb1.trans (hb2.mono hb1.size)⟩
      ·exfalso; omega
   ·obtain ⟨rfl, rfl⟩ := hp hx0
    have HS := Lib.hid (StripAt.start (s := 4503599627370496 + m) (by omega) (by omega))
    have hx1 : 1 ≤ x := by omega
    have hxd : ((x : Int) == 0) = false := beq_eq_false_iff_ne.2 (by omega)
    clear hz hp hs0 hE0 hi hle hn h hbl hW h0 hg hru hm1 hbd hx0
    have hadd : (m : Int) + 4503599627370496 = ((4503599627370496 + m : Nat) : Int) := by omega
    have HA := Lib.hid hadd
    clear hadd
    generalize 4503599627370496 + m = s at *
    go_enter Tryz.func87, Tryz.ntmps87
    go_wp2_with (first | (go_at_call 93; refine (HB.out _).mono ?_; rintro e w1 ⟨rfl, rfl⟩) | (go_at_call 94; refine (HE.out _).mono ?_; rintro e w1 ⟨rfl, rfl⟩) | (go_at_call 95; refine (HWh.out _).mono ?_; rintro e w1 ⟨rfl, rfl⟩))
    go_loop [7, 6] (fun y i => ∃ m' f k : Nat, y = .int .u64 m' ∧ i = .int .i64 ((x : Int) - 1075 + (k : Int)) ∧ StripAt s m' f k) (fun y _ => (intOf y).toNat)
    case atStart => exact ⟨s, 64, 0, by rw [← HA.out], by simp, HS.out⟩
    case round =>
     obtain ⟨m', f, k, rfl, rfl, hst⟩ := hrel
     have hk : k ≤ 64 := hst.2.2.1
     have hm : 0 < m' := hst.2.1
     have ha1 := mod_two m'
     have hwr := num.wrap_div m' 2 hst.2.2.2.2.2
     by_cases he : m' % 2 = 0
     ·obtain ⟨f', h'⟩ := hst.step he
      have H' := Lib.hid h'
      replace ha1 : (m' : Int) % 2 = 0 := by rw [ha1, he]; rfl
      replace hwr : IntKind.u64.wrap ((m' : Int) / 2) = ((m' / 2 : Nat) : Int) := hwr
      clear he hst h'
      go_wp2
      go_round
      case rel => exact ⟨m' / 2, f', k + 1, rfl, by go_num, H'.out⟩
      case measure => simp [intOf]; omega
     ·have he1 : m' % 2 = 1 := by omega
      have hst2 := hst.stop he1
      replace ha1 : (m' : Int) % 2 = 1 := by rw [ha1, he1]; rfl
      have hm2 := HM1.out
      rw [hst2.1] at HT hm2
      rw [hst2.2] at HT
      clear he he1 hst hst2 HM1 hwr
      have HD := Lib.hid (fun W => rDec_any m' W (show m' < 18446744073709551616 by omega))
      have hs1 := decS_size m'
      have hZ0 := fun W => rDec_any ((x : Int) - 1075 + (k : Int)).natAbs W (show ((x : Int) - 1075 + (k : Int)).natAbs < 18446744073709551616 by omega)
      have HZ := Lib.hid hZ0
      have hs2 := decS_size ((x : Int) - 1075 + (k : Int)).natAbs
      by_cases hng : (x : Int) - 1075 + (k : Int) < 0
      ·have hneg : decide ((x : Int) - 1075 + (k : Int) < 0) = true := decide_eq_true hng
       have hw : IntKind.u64.wrap (-((x : Int) - 1075 + (k : Int))) = (((x : Int) - 1075 + (k : Int)).natAbs : Int) := by rw [IntKind.wrap_u64]; omega
       have HC := Lib.hid (szN (decS m') ((x : Int) - 1075 + (k : Int)) hng)
       have hs3 : (decS m' ++ (⟨#[112, 45]⟩ : ByteArray)).size ≤ 22 := by rw [ByteArray.size_append]; show _ + 2 ≤ 22; omega
       generalize decS m' = D at *
       generalize ((x : Int) - 1075 + (k : Int)).natAbs = N at *
       generalize decS N = Z at *
       generalize hDD : D ++ (⟨#[112, 45]⟩ : ByteArray) = DD at *
       have HDD := Lib.hid hDD
       clear hZ0
       go_wp2_with fail
       refine (HD.out _).mono ?_; rintro e w1 ⟨rfl, hb1⟩
       go_wp2_with fail
       refine (HZ.out _).mono ?_; rintro e w2 ⟨rfl, hb2⟩
       go_wp2_with fail
       go_ret
       exact ⟨ret_str (by rw [HT.out, ← HC.out]), hb1.trans (hb2.mono hb1.size)⟩
      ·have hneg : decide ((x : Int) - 1075 + (k : Int) < 0) = false := decide_eq_false hng
       have hw : IntKind.u64.wrap ((x : Int) - 1075 + (k : Int)) = (((x : Int) - 1075 + (k : Int)).natAbs : Int) := by rw [IntKind.wrap_u64]; omega
       have hs3 : (decS m' ++ (⟨#[112]⟩ : ByteArray)).size ≤ 21 := by rw [ByteArray.size_append]; show _ + 1 ≤ 21; omega
       rw [szS_pos _ (by omega)] at HT
       generalize decS m' = D at *
       generalize ((x : Int) - 1075 + (k : Int)).natAbs = N at *
       generalize decS N = Z at *
       generalize hDD : D ++ (⟨#[112]⟩ : ByteArray) = DD at *
       have HDD := Lib.hid hDD
       clear hZ0
       go_wp2_with fail
       refine (HD.out _).mono ?_; rintro e w1 ⟨rfl, hb1⟩
       go_wp2_with fail
       refine (HZ.out _).mono ?_; rintro e w2 ⟨rfl, hb2⟩
       go_wp2_with fail
       go_ret
       exact ⟨ret_str HT.out.symm, hb1.trans (hb2.mono hb1.size)⟩
  ·have HT : Hid (txtP a = szS (wholeN a)) := by unfold Hid txtP; rw [if_neg hi, hW]; rfl
   have hbd := wholeN_bd a (by omega)
   have h0 : 0 ≤ wholeN a := by
    unfold wholeN trI
    rw [hW, (show sgn a = false from decide_eq_false (by omega))]
    simp
   rw [hW] at HWh
   rw [szS_pos _ h0] at HT
   generalize wholeN a = x at *
   have hw : IntKind.u64.wrap x = (x.natAbs : Int) := by rw [IntKind.wrap_u64]; omega
   have HD := Lib.hid (fun W => rDec_any x.natAbs W (show x.natAbs < 18446744073709551616 by omega))
   generalize x.natAbs = n at *
   clear hi hle hn h hbl hbd hW h0 hg hru
   go_enter Tryz.func87, Tryz.ntmps87
   go_wp2_with (first | (go_at_call 93; refine (HB.out _).mono ?_; rintro e w1 ⟨rfl, rfl⟩) | (go_at_call 94; refine (HE.out _).mono ?_; rintro e w1 ⟨rfl, rfl⟩) | (go_at_call 95; refine (HWh.out _).mono ?_; rintro e w1 ⟨rfl, rfl⟩) | (go_at_call 96; refine (HD.out _).mono ?_; rintro e w1 ⟨rfl, hb⟩))
   go_ret
   exact ⟨ret_str HT.out.symm, hb⟩
theorem rText_any (a : Nat) (w : World) (h : a < 18446744073709551616) : Calls Tryz.prog 87 #[fv a] w fun e w' => e = .returned (.string (txt a)) ∧ Below w.heap.size w w' := by
 cases hn : nanB a
 ·cases hs : sgn a
  ·have e : txt a = txtP a := by unfold txt; rw [hn, hs]; rfl
   rw [e]
   have h1 : a < 9223372036854775808 := by unfold sgn at hs; have := of_decide_eq_false hs; omega
   exact rText_pos a w h1 hn
  ·have HE : Hid (txt a = (⟨#[45]⟩ : ByteArray) ++ txtP (ng a)) := by unfold Hid txt; rw [hn, hs]; rfl
   have h1 : 9223372036854775808 ≤ a := of_decide_eq_true hs
   have h2 : ng a < 9223372036854775808 := by unfold ng; rw [if_neg (by omega)]; omega
   have h3 : nanB (ng a) = false := by
    rcases fin_cases a h with hf | ⟨h4, h5⟩ | ⟨h4, h5⟩
    ·refine fin_nan _ ?_
     have := hf.2
     unfold rung at this
     exact (fin_pos _ (by unfold ng; rw [if_neg (by omega)]; omega)).1
    ·have : ng a = 9218868437227405312 := by unfold rung at h4; unfold ng; rw [if_neg (by omega)]; omega
     rw [this]; exact inf_nan
    ·rw [h5] at hn; cases hn
   have HP := Lib.hid (fun W => rText_pos (ng a) W h2 h3)
   have hsz : (txtP (ng a)).size ≤ 42 := txtP_size _
   have ho2 := neR (a := a) (c := a) (b := true) (by unfold eqB; rw [order_self, hn]; rfl)
   simp only [Bool.not_true] at ho2
   have HB := Lib.hid (fun W => rbelow_any a W h)
   have HN := Lib.hid (fun W => rNeg_any a W h)
   rw [decide_eq_true h1] at HB
   generalize txtP (ng a) = T at *
   generalize ng a = b at *
   clear h h1 h2 h3 hs hn
   go_enter Tryz.func87, Tryz.ntmps87
   go_wp2_with (first | (go_at_call 93; refine (HB.out _).mono ?_; rintro e w1 ⟨rfl, rfl⟩) | (go_at_call 75; refine (HN.out _).mono ?_; rintro e w1 ⟨rfl, rfl⟩) | (go_at_call 87; refine (HP.out _).mono ?_; rintro e w1 ⟨rfl, hb⟩))
   go_ret
   exact ⟨ret_str HE.out.symm, hb⟩
 ·have HE : Hid (txt a = ⟨#[110, 97, 110]⟩) := by unfold Hid txt; rw [hn]; rfl
  have ho2 := neR (a := a) (c := a) (b := false) (by unfold eqB; rw [order_self, hn]; rfl)
  simp only [Bool.not_false] at ho2
  clear hn h
  go_enter Tryz.func87, Tryz.ntmps87
  go_wp2_with fail
  go_ret
  exact ⟨ret_str HE.out.symm, Below.refl _ _⟩
end Go.Proofs.YtkcgldpedfafpaaGreat.flt

namespace Go.Proofs.YtkcgldpedfafpaaGreat.flt
open Go.RowKit Ieee
set_option linter.unusedVariables false
set_option maxRecDepth 100000
attribute [local go_sem] run_bits run_frombits

def NANB : Nat := 9221120237041090561
def ModAt (X y r : Nat) : Prop := r < INF ∧ mg r % mg y = mg X % mg y
theorem ModAt.stop {X y r : Nat} (h : ModAt X y r) (hy : y < INF) (h0 : 0 < y) (hX : X < INF) (hr : r < y) : r = modR X y := by
 apply mg_inj
 rw [(modR_ok X y hX hy h0).2, ← h.2, Nat.mod_eq_of_lt (mg_lt hr)]
end Go.Proofs.YtkcgldpedfafpaaGreat.flt

namespace Go.Proofs.YtkcgldpedfafpaaGreat.flt
open Go.RowKit Ieee
open num (ret_pair ofDecV ofDecX ofDecE ofDec_no ofDec_yes)
set_option linter.unusedVariables false
set_option maxRecDepth 100000

def cutL (c : UInt8) : List UInt8 → List UInt8 × List UInt8 × Bool
 | [] => ([], [], false)
 | x :: r => if x = c then ([], r, true) else (x :: (cutL c r).1, (cutL c r).2.1, (cutL c r).2.2)
theorem cutL_cases (c : UInt8) (l : List UInt8) : (c ∉ l ∧ cutL c l = (l, [], false)) ∨ (∃ a b, c ∉ a ∧ l = a ++ c :: b ∧ cutL c l = (a, b, true)) := by
 induction l with
 | nil => exact .inl ⟨List.not_mem_nil, rfl⟩
 | cons x r ih =>
  by_cases h : x = c
  ·exact .inr ⟨[], r, List.not_mem_nil, by rw [h]; rfl, by rw [cutL, if_pos h]⟩
  ·rcases ih with ⟨h1, h2⟩ | ⟨a, b, h1, h2, h3⟩
   ·left
    refine ⟨?_, by rw [cutL, if_neg h, h2]⟩
    rw [List.mem_cons, not_or]
    exact ⟨fun e => h e.symm, h1⟩
   ·right
    refine ⟨x :: a, b, ?_, by rw [h2]; rfl, by rw [cutL, if_neg h, h3]⟩
    rw [List.mem_cons, not_or]
    exact ⟨fun e => h e.symm, h1⟩
/-- A float by a power of two, 0 too. -/
def ldz (a : Nat) (k : Int) : Nat := if a = 0 then 0 else ldx a k
theorem ldz_lt (a : Nat) (k : Int) (h : a < INF) : ldz a k ≤ INF := by
 unfold ldz
 split
 ·unfold INF; omega
 ·exact ldx_le a k (Nat.pos_of_ne_zero (by assumption)) h
theorem fl_lt (n : Nat) (h : n ≤ 9007199254740992) : fl n < INF := by
 rcases Nat.eq_zero_or_pos n with rfl | h0
 ·rw [← zero_fl]; unfold INF; omega
 ·exact (fl_pos n h0 h).1
/-- What powered reads. -/
def powR (f b : List UInt8) (pt : Bool) : Option Nat :=
 if pt then match ofDecV f, ofDecV (Lib.trimPrefix b [45]) with
  | some m, some k => if m ≤ 9007199254740992 ∧ k ≤ 2000 then some (ldz (fl m) (if Lib.hasPrefix b [45] then -(k : Int) else (k : Int))) else none
  | _, _ => none
 else none
def powOk (f b : List UInt8) (pt : Bool) : Bool := (powR f b pt).isSome
def powV (f b : List UInt8) (pt : Bool) : Nat := (powR f b pt).getD 0
theorem trim_len (b p : List UInt8) : (Lib.trimPrefix b p).length ≤ b.length := by
 unfold Lib.trimPrefix
 split
 ·simp
 ·exact Nat.le_refl _
/-! OfText -/
def decOkL (l : List UInt8) : Bool := decOk (cutL 46 l).1 (cutL 46 l).2.1 (cutL 46 l).2.2
def decVL (l : List UInt8) : Nat := decV (cutL 46 l).1 (cutL 46 l).2.1 (cutL 46 l).2.2
def powOkL (l : List UInt8) : Bool := powOk (cutL 112 l).1 (cutL 112 l).2.1 (cutL 112 l).2.2
def powVL (l : List UInt8) : Nat := powV (cutL 112 l).1 (cutL 112 l).2.1 (cutL 112 l).2.2
theorem decVL_lt (l : List UInt8) : decVL l < 18446744073709551616 := by
 unfold decVL decV decQ
 split
 ·cases h : fop .quo _ _ with
  | none => simp
  | some r => exact fop_lt h
 ·omega
end Go.Proofs.YtkcgldpedfafpaaGreat.flt

namespace Go.Proofs.YtkcgldpedfafpaaGreat.flt
open Go.RowKit Ieee
open num (ret_pair ofDecV ofDecX ofDecE ofDec_no ofDec_yes)
set_option linter.unusedVariables false
set_option maxRecDepth 100000

/-- The text without its sign. -/
def bodyL (l : List UInt8) : List UInt8 := Lib.trimPrefix l [45]
def nanL : List UInt8 := [110, 97, 110]
def infL : List UInt8 := [105, 110, 102]
/-- What is read, and whether by a point or a power. -/
def bodyV (t : List UInt8) : Option (Nat × Bool) :=
 if decOkL t then some (decVL t, true) else if t = nanL then some (NANB, false) else if t = infL then some (9218868437227405312, false)
 else match ofDecV t with
  | some x => if x ≤ 9007199254740992 then some (fl x, false) else if powOkL t then some (powVL t, true) else none
  | none => if powOkL t then some (powVL t, true) else none
def signV (l : List UInt8) (a : Nat) : Nat := if (bodyL l).length < l.length then ng a else a
def ofT (l : List UInt8) : Option Nat := match bodyV (bodyL l) with
 | none => none
 | some (a, is) => if (!is || l.contains 112) && !((txt (signV l a)).data.toList == l) then none else some (signV l a)
/-! the paths -/
def ofE (l : List UInt8) : Value := match ofT l with
 | some a => .tuple #[fv a, .int .i64 0]
 | none => .tuple #[fv 0, .int .i64 200]
theorem infb_lt : (9218868437227405312 : Nat) < 18446744073709551616 := by decide
theorem fl64 (x : Nat) (h : x ≤ 9007199254740992) : fl x < 18446744073709551616 := Nat.lt_trans (fl_lt x h) infb_lt
end Go.Proofs.YtkcgldpedfafpaaGreat.flt
