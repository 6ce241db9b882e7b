/-
  Proved: what the small functions of package lex return (the four runs written by wip/bin/lex1.py). Conditions: as each theorem says.
  Proved: what rest, on and blanks of a scanner return. Conditions: as each theorem says.
  Proved: what copyCheck and WriteByte of a strings.Builder do, after the library's own proofs (Derived/Shelf/Strings/Builder1.lean), whose text of copyCheck differs by one panic. Conditions: as each theorem says.
  Proved: what lex.text returns (written by wip/bin/lex3.py). Conditions: as each theorem says.
  Proved: what a scanner's token returns. Conditions: as each theorem says.
  Proved: what lex.Tokens returns, of every text. Conditions: as each theorem says.
-/
import Derived.Test.YtkcgldpedfafpaaGreatPr10
import Derived.Test.YtkcgldpedfafpaaGreatPr7
import Derived.Test.YtkcgldpedfafpaaGreatPr8
import Derived.Shelf.Strings.Builder1
import Derived.WalkKit
import Derived.WalkLawsBesides
import Derived.WalkSpells
import Derived.RegionTactic
import Derived.BigRegion
import Derived.ChangeAlike
import Derived.Test.YtkcgldpedfafpaaGreatPr6
namespace Go.Proofs.YtkcgldpedfafpaaGreat.lex
open Go.RowKit
open flt (isD)
open num (list_len drop_cons)
set_option linter.unusedVariables false
set_option maxRecDepth 100000

theorem all_u8 {p q : UInt8 → Bool} (h : ∀ n : Fin 256, p (UInt8.ofNat n.val) = q (UInt8.ofNat n.val)) (c : UInt8) : p c = q c := by
 have := h ⟨c.toNat, c.toNat_lt⟩
 simpa using this
def iB (c : Int) : Bool := c == 32 || c == 9 || c == 10 || c == 13
theorem blank_eq (c : UInt8) : blankB c = iB (c.toNat : Int) := all_u8 (q := fun c => iB (c.toNat : Int)) (by decide +kernel) c
theorem runB_yes {p : UInt8 → Bool} {c : UInt8} {l : List UInt8} (h : p c = true) : runB p (c :: l) = runB p l + 1 := by simp [runB, h]
theorem runB_no {p : UInt8 → Bool} {c : UInt8} {l : List UInt8} (h : p c = false) : runB p (c :: l) = 0 := by simp [runB, h]
theorem ret_i {a b : Int} (h : a = b) : Ending.returned (.int .i64 a) = .returned (.int .i64 b) := by rw [h]
end Go.Proofs.YtkcgldpedfafpaaGreat.lex

namespace Go.Proofs.YtkcgldpedfafpaaGreat.lex
open Go.RowKit
open flt (isD)
open heap
open num (list_len drop_cons ret_str)
set_option linter.unusedVariables false
set_option maxRecDepth 100000

end Go.Proofs.YtkcgldpedfafpaaGreat.lex

namespace Go.Proofs.YtkcgldpedfafpaaGreat.build
open Go.RowKit Go.Shelf
set_option linter.unusedVariables false

end Go.Proofs.YtkcgldpedfafpaaGreat.build

namespace Go.Proofs.YtkcgldpedfafpaaGreat.lex
open Go.RowKit
open flt (isD)
open heap
open num (list_len drop_cons ret_pair)
set_option linter.unusedVariables false
set_option maxRecDepth 100000

/-- What text returns. -/
def textR (l : List UInt8) : List UInt8 × Nat := match qtS false (l.drop 1) with
 | none => ([], 0)
 | some x => if 1024 < x.1.length then ([], 0) else (x.1, x.2 + 1)
def TxAt (s : ByteArray) (i : Nat) (acc : List UInt8) : Prop := 1 ≤ i ∧ acc.length ≤ i ∧ qtS false (s.data.toList.drop 1) = (qtS false (s.data.toList.drop i)).map fun x => (acc ++ x.1, i - 1 + x.2)
theorem TxAt.quote {s : ByteArray} {i : Nat} {acc : List UInt8} (h : TxAt s i acc) (hi : i < s.size) (hc : s[i] = 34) : textR s.data.toList = if 1024 < acc.length then ([], 0) else (acc, i + 1) := by
 unfold textR
 rw [h.2.2, drop_cons s i hi, hc]
 have e : qtS false (34 :: s.data.toList.drop (i + 1)) = some ([], 1) := by simp [qtS]
 rw [e]
 have := h.1
 simp only [Option.map_some, List.append_nil]
 split
 ·rfl
 ·rw [show i - 1 + 1 + 1 = i + 1 by omega]
theorem TxAt.nil' {s : ByteArray} {i : Nat} {acc : List UInt8} (h : TxAt s i acc) (hn : qtS false (s.data.toList.drop i) = none) : textR s.data.toList = ([], 0) := by
 unfold textR
 rw [h.2.2, hn]; rfl
theorem TxAt.low {s : ByteArray} {i : Nat} {acc : List UInt8} (h : TxAt s i acc) (hi : i < s.size) (h1 : s[i] ≠ 34) (hc : s[i].toNat < 32) : textR s.data.toList = ([], 0) := by
 refine h.nil' ?_
 rw [drop_cons s i hi, qtS, if_neg h1, if_pos hc]
theorem TxAt.over {s : ByteArray} {i : Nat} {acc : List UInt8} (h : TxAt s i acc) (hi : s.size ≤ i) : textR s.data.toList = ([], 0) := by
 refine h.nil' ?_
 rw [List.drop_eq_nil_of_le (by rw [list_len]; exact hi)]; rfl
theorem TxAt.step {s : ByteArray} {i : Nat} {acc : List UInt8} (h : TxAt s i acc) (hi : i < s.size) (h1 : s[i] ≠ 34) (hc : ¬ s[i].toNat < 32) (h2 : s[i] ≠ 92) : TxAt s (i + 1) (acc ++ [s[i]]) := by
 refine ⟨by omega, by have := h.2.1; simp; omega, ?_⟩
 rw [h.2.2, drop_cons s i hi, qtS, if_neg h1, if_neg hc, if_neg h2, Option.map_map]
 congr 1
 funext x
 have := h.1
 simp only [Function.comp, List.append_assoc, List.singleton_append, Prod.mk.injEq, true_and]
 omega
theorem TxAt.end' {s : ByteArray} {i : Nat} {acc : List UInt8} (h : TxAt s i acc) (hi : i < s.size) (h2 : s[i] = 92) (he : s.size ≤ i + 1) : textR s.data.toList = ([], 0) := by
 refine h.nil' ?_
 rw [drop_cons s i hi, h2, List.drop_eq_nil_of_le (by rw [list_len]; exact he)]
 decide
theorem TxAt.esc {s : ByteArray} {i : Nat} {acc : List UInt8} {e : UInt8} (h : TxAt s i acc) (hi : i + 1 < s.size) (h2 : s[i] = 92) (he : escB s[i + 1] = some e) : TxAt s (i + 2) (acc ++ [e]) := by
 refine ⟨by omega, by have := h.2.1; simp; omega, ?_⟩
 rw [h.2.2, drop_cons s i (by omega), h2, drop_cons s (i + 1) hi]
 have e1 : ∀ r : List UInt8, qtS false (92 :: s[i + 1] :: r) = (qtS false r).map fun x => (e :: x.1, x.2 + 2) := by
  intro r
  rw [qtS, if_neg (by decide), if_neg (by decide), if_pos rfl, qtS, he]
  simp only [Option.map_map]
  rfl
 rw [e1, Option.map_map]
 congr 1
 funext x
 have := h.1
 simp only [Function.comp, List.append_assoc, List.singleton_append, Prod.mk.injEq, true_and]
 omega
theorem TxAt.noesc {s : ByteArray} {i : Nat} {acc : List UInt8} (h : TxAt s i acc) (hi : i + 1 < s.size) (h2 : s[i] = 92) (he : escB s[i + 1] = none) : textR s.data.toList = ([], 0) := by
 refine h.nil' ?_
 rw [drop_cons s i (by omega), h2, drop_cons s (i + 1) hi, qtS, if_neg (by decide), if_neg (by decide), if_pos rfl, qtS, he]
 rfl
theorem u8_ne {c : UInt8} {n : Nat} (hn : n < 256) (h : ((c.toNat : Int) == (n : Int)) = false) : c ≠ UInt8.ofNat n := by
 intro e; subst e
 have : (UInt8.ofNat n).toNat = n := by simp; omega
 rw [this] at h; simp at h
theorem u8_eq {c : UInt8} {n : Nat} (hn : n < 256) (h : ((c.toNat : Int) == (n : Int)) = true) : c = UInt8.ofNat n := by
 apply UInt8.toNat_inj.1
 have e := beq_iff_eq.1 h
 have : (UInt8.ofNat n).toNat = n := by simp; omega
 omega
end Go.Proofs.YtkcgldpedfafpaaGreat.lex

namespace Go.Proofs.YtkcgldpedfafpaaGreat.lex
open Go.RowKit
open flt (isD fv ofT ofE)
open heap
open num (list_len drop_cons ret_pair)
set_option linter.unusedVariables false
set_option maxRecDepth 100000

theorem run_store_float {P : Program} {w : World} {a : Addr} {m : Mode} (x : Nat) : (store a (.float .f64 x) m).run P w = stored P w a (.float .f64 x) m := run_store P w a _ m rfl
attribute [local go_sem] run_store_float
abbrev tkV (k : Int) (t : ByteArray) (x : Nat) (a : Nat) : Value := .agg #[.int .i64 k, .string t, .float .f64 x, .int .i64 a]
def TkAt (w : World) (b : Nat) (k : Int) (t : ByteArray) (x : Nat) (a : Nat) : Prop := w.heap[b]? = some (.cells #[.int .i64 k, .string t, .float .f64 x, .int .i64 a] 41 (0, 0))
theorem TkAt.cells {w : World} {b : Nat} {k : Int} {t : ByteArray} {x a : Nat} (h : TkAt w b k t x a) : w.cell? ⟨b, 0, none⟩ = some (.int .i64 k) ∧ w.cell? ⟨b, 1, none⟩ = some (.string t) ∧ w.cell? ⟨b, 2, none⟩ = some (.float .f64 x) ∧ w.cell? ⟨b, 3, none⟩ = some (.int .i64 a) ∧
  w.frozen? ⟨b, 0, none⟩ = false ∧ w.frozen? ⟨b, 1, none⟩ = false ∧ w.frozen? ⟨b, 2, none⟩ = false ∧ w.frozen? ⟨b, 3, none⟩ = false ∧ b < w.heap.size :=
 ⟨by rw [blk_cell h]; rfl, by rw [blk_cell h]; rfl, by rw [blk_cell h]; rfl, by rw [blk_cell h]; rfl, blk_free h 0, blk_free h 1, blk_free h 2, blk_free h 3, blk_lt h⟩
theorem TkAt.below {w w' : World} {b : Nat} {k : Int} {t : ByteArray} {x a : Nat} (h : TkAt w b k t x a) (hb : Below w.heap.size w w') : TkAt w' b k t x a := blk_below h hb
theorem TkAt.set4 {w : World} {b : Nat} {k0 : Int} {t0 : ByteArray} {x0 a0 : Nat} (h : TkAt w b k0 t0 x0 a0) (k : Int) (t : ByteArray) (x a : Nat) :
  TkAt ((((w.setCell ⟨b, 0, none⟩ (.int .i64 k)).setCell ⟨b, 1, none⟩ (.string t)).setCell ⟨b, 2, none⟩ (.float .f64 x)).setCell ⟨b, 3, none⟩ (.int .i64 a)) b k t x a := by
 have h1 := blk_set h 0 (.int .i64 k)
 have h2 := blk_set h1 1 (.string t)
 have h3 := blk_set h2 2 (.float .f64 x)
 have h4 := blk_set h3 3 (.int .i64 a)
 exact h4
end Go.Proofs.YtkcgldpedfafpaaGreat.lex

namespace Go.Proofs.YtkcgldpedfafpaaGreat.lex
open Go.RowKit
open flt (isD fv ofT ofE str_size)
open heap
open num (list_len drop_cons ret_pair bcell)
set_option linter.unusedVariables false
set_option maxRecDepth 100000
attribute [local go_sem] run_store_float

theorem add0 (g j : Nat) : (⟨g, 0, none⟩ : Addr).add j = ⟨g, j, none⟩ := by unfold Addr.add; split <;> simp_all
def tkC (t : Tk) : List Value := [.int .i64 t.kind, .string ⟨t.text.toArray⟩, .float .f64 t.num, .int .i64 t.at']
def tkCs (ts : List Tk) : List Value := ts.flatMap tkC
theorem tkCs_get (ts : List Tk) (j : Nat) (m : Tk) (h : ts[j]? = some m) : (tkCs ts)[j * 4]? = some (.int .i64 m.kind) ∧ (tkCs ts)[j * 4 + 1]? = some (.string ⟨m.text.toArray⟩) ∧ (tkCs ts)[j * 4 + 2]? = some (.float .f64 m.num) ∧ (tkCs ts)[j * 4 + 3]? = some (.int .i64 m.at') := by
 induction ts generalizing j with
 | nil => simp at h
 | cons x ms ih =>
  have e : tkCs (x :: ms) = tkC x ++ tkCs ms := rfl
  rw [e]
  cases j with
  | zero =>
   simp at h
   subst h
   exact ⟨rfl, rfl, rfl, rfl⟩
  | succ j =>
   have := ih j (by simpa using h)
   have l3 : (tkC x).length = 4 := rfl
   rw [List.getElem?_append_right (by rw [l3]; omega), List.getElem?_append_right (by rw [l3]; omega), List.getElem?_append_right (by rw [l3]; omega), List.getElem?_append_right (by rw [l3]; omega), l3]
   rw [show (j + 1) * 4 - 4 = j * 4 by omega, show (j + 1) * 4 + 1 - 4 = j * 4 + 1 by omega, show (j + 1) * 4 + 2 - 4 = j * 4 + 2 by omega, show (j + 1) * 4 + 3 - 4 = j * 4 + 3 by omega]
   exact this
/-- A row of tokens of the call's own. -/
def TRow (w : World) (base : Nat) (v : Value) (ts : List Tk) : Prop := w.ownsRow base 41 4 v ts.length (tkCs ts)
theorem trow_kept {w w' : World} {base : Nat} {v : Value} {ts : List Tk} (h : TRow w base v ts) (hk : ∀ g o, v.ownBlock = some g → w.heap[g]? = some o → w'.heap[g]? = some o) : TRow w' base v ts := by
 obtain ⟨hl, h1 | ⟨g, c, cur, rfl, h2, h3, h4⟩⟩ := h
 ·exact ⟨hl, .inl h1⟩
 ·exact ⟨hl, .inr ⟨g, c, cur, rfl, h2, hk g _ rfl h3, h4⟩⟩
theorem TRow.below {w w' : World} {base : Nat} {v : Value} {ts : List Tk} (h : TRow w base v ts) (hb : Below w.heap.size w w') : TRow w' base v ts := trow_kept h (fun g o hg ho => blk_below ho hb)
theorem TRow.slice {w : World} {base : Nat} {v : Value} {ts : List Tk} (h : TRow w base v ts) : ∃ a c, v = .slice a ts.length c := by
 obtain ⟨_, ⟨h, h0⟩ | ⟨_, _, _, h, _⟩⟩ := h
 ·exact ⟨none, 0, by rw [h, h0]⟩
 ·exact ⟨_, _, h⟩
theorem TRow.cells {w : World} {base : Nat} {v : Value} {ts : List Tk} (h : TRow w base v ts) : (v = .slice none 0 0 ∧ ts = []) ∨ ∃ g c, v = .slice (some ⟨g, 0, none⟩) ts.length c ∧ g < w.heap.size ∧ base ≤ g ∧ ts.length ≤ c ∧ c ≤ maxLen ∧
  ∀ j m, ts[j]? = some m → w.cell? ⟨g, j * 4, none⟩ = some (.int .i64 m.kind) ∧ w.cell? ⟨g, j * 4 + 1, none⟩ = some (.string ⟨m.text.toArray⟩) ∧ w.cell? ⟨g, j * 4 + 2, none⟩ = some (.float .f64 m.num) ∧ w.cell? ⟨g, j * 4 + 3, none⟩ = some (.int .i64 m.at') := by
 have hlt := World.ownsRow.lt h
 have hcl := @World.ownsRow.cells _ _ _ _ _ _ _ h
 obtain ⟨hl, ⟨h1, h2⟩ | ⟨g, c, cur, hv, h2, h3, h4, h5, h6, h7⟩⟩ := h
 ·exact .inl ⟨h1, List.length_eq_zero_iff.1 h2⟩
 ·refine .inr ⟨g, c, hv, (hlt g (by rw [hv]; rfl)).2, h2, h4, h5, fun j m hm => ?_⟩
  obtain ⟨e0, e1, e2, e3⟩ := tkCs_get ts j m hm
  have k0 := hcl (g := g) (by rw [hv]; rfl) _ _ e0
  have k1 := hcl (g := g) (by rw [hv]; rfl) _ _ e1
  have k2 := hcl (g := g) (by rw [hv]; rfl) _ _ e2
  have k3 := hcl (g := g) (by rw [hv]; rfl) _ _ e3
  rw [add0] at k0 k1 k2 k3
  exact ⟨k0, k1, k2, k3⟩
theorem TRow.own_lt {w : World} {base : Nat} {v : Value} {ts : List Tk} (h : TRow w base v ts) : ∀ g ∈ v.ownBlock.toList, base ≤ g ∧ g < w.heap.size := by
 intro g hg
 have := World.ownsRow.lt h g (by simpa using hg)
 exact this
theorem TRow.nil (w : World) (base : Nat) : TRow w base (.slice none 0 0) [] := World.ownsRow_nil _ _ _ _
theorem infoT : (Tryz.prog.info? 41).map (fun i => (i.zero, i.size, i.bytes)) = some (some (.agg #[.int .i64 0, .string ⟨#[]⟩, .float .f64 0, .int .i64 0]), 4, 40) := by kernel_rfl
theorem app_tok (B g : Nat) (v : Value) (ts : List Tk) (t : Tk) (w : World) (h : TRow w B v ts) (hg : w.heap[g]? = some (.cells #[.int .i64 t.kind, .string ⟨t.text.toArray⟩, .float .f64 t.num, .int .i64 t.at'] 41 (0, 0))) (hB : B ≤ w.heap.size) (hn : ts.length ≤ 100000) :
  ∃ v2 w2, (Builtin.append_ #[44, 44] 44 #[v, .slice (some ⟨g, 0, none⟩) 1 1]).run Tryz.prog w = .ok v2 w2 ∧ TRow w2 B v2 (ts ++ [t]) ∧ Turned v.ownBlock.toList w w2 := by
 obtain ⟨i0, hi, hz0, hz1, hz2⟩ := info_parts infoT
 obtain ⟨v2, w2, hrun, hown, hgr, _⟩ := run_append_own (P := Tryz.prog) w B 44 44 41 i0 _ 4 40 Tryz.underlying44 hi hz0 hz1 hz2 rfl (by decide) v ts.length _ h ⟨g, 0, none⟩ 1 1 (tkC t) rfl (fun j u hu => by rw [add0, blk_cell hg]; simpa [tkC] using hu) (by simp [tkC, Value.oneCell']) (by unfold maxLen; omega) (by omega) hB
 refine ⟨v2, w2, hrun, ?_, ⟨hgr.os, hgr.tape, hgr.output, hgr.size, fun b hb hn => hgr.block b hb (fun e => hn (by simp [← e]))⟩⟩
 unfold TRow
 rw [List.length_append]
 have e : tkCs (ts ++ [t]) = tkCs ts ++ tkC t := by simp [tkCs]
 rw [e]; exact hown
theorem tok_err {t : List UInt8} {e : Int} (h : tok t = .error e) : e ≠ 0 := by
 unfold tok at h
 repeat' split at h
 all_goals (cases h; try decide)
/-- Where Tokens stands: what was read, and what is still to come. -/
structure At (L : List UInt8) (ts : List Tk) (k f : Nat) : Prop where
 le : k ≤ L.length
 few : ts.length ≤ k
 fuel : L.length - k < f
 one : ts ++ (scanF f (L.drop k) k).1 = (scanL L).1
 two : (scanF f (L.drop k) k).2 = (scanL L).2
theorem At.start {L : List UInt8} (h : ¬ 16384 < L.length) : At L [] (skp false L) (L.length + 1) := by
 refine ⟨skp_le _ _, by simp, by omega, ?_, ?_⟩
 ·unfold scanL; rw [if_neg h]; rfl
 ·unfold scanL; rw [if_neg h]
theorem At.end' {L : List UInt8} {ts : List Tk} {k f : Nat} (h : At L ts k f) (ht : L.drop k = []) : (scanL L).1 = ts ++ [⟨0, [], 0, k⟩] ∧ (scanL L).2 = (0, 0) := by
 cases f with
 | zero => have := h.fuel; omega
 | succ f =>
  have e : scanF (f + 1) (L.drop k) k = ([⟨0, [], 0, k⟩], 0, 0) := by rw [scanF, if_pos ht]
  rw [← h.one, ← h.two, e]; exact ⟨rfl, rfl⟩
theorem At.bad {L : List UInt8} {ts : List Tk} {k f : Nat} {e : Int} (h : At L ts k f) (h0 : L.drop k ≠ []) (ht : tok (L.drop k) = .error e) : (scanL L).2 = (k, e) := by
 cases f with
 | zero => have := h.fuel; omega
 | succ f =>
  rw [← h.two, scanF, if_neg h0, ht]
theorem At.next {L : List UInt8} {ts : List Tk} {k f : Nat} {kd : Int} {u : List UInt8} {x n : Nat} (h : At L ts k f) (h0 : L.drop k ≠ []) (ht : tok (L.drop k) = .ok (kd, u, x, n)) :
  k + n ≤ L.length ∧ 1 ≤ n ∧ ∃ f', At L (ts ++ [⟨kd, u, x, k⟩]) (k + n + skp false (L.drop (k + n))) f' := by
 have hl := tok_len h0 ht
 rw [List.length_drop] at hl
 simp only at hl
 have hk := h.le
 refine ⟨by omega, hl.1, ?_⟩
 cases f with
 | zero => have := h.fuel; omega
 | succ f =>
  have hs := skp_le false (L.drop (k + n))
  rw [List.length_drop] at hs
  have h1 := h.one
  have h2 := h.two
  rw [scanF, if_neg h0, ht] at h1 h2
  simp only [List.drop_drop] at h1 h2
  refine ⟨f, by omega, by have := h.few; simp; omega, by have := h.fuel; omega, ?_, ?_⟩
  ·rw [← h1, List.append_assoc]; rfl
  ·exact h2
abbrev tokO (t : Tk) : Obj := .cells #[.int .i64 t.kind, .string ⟨t.text.toArray⟩, .float .f64 t.num, .int .i64 t.at'] 41 (0, 0)
end Go.Proofs.YtkcgldpedfafpaaGreat.lex
