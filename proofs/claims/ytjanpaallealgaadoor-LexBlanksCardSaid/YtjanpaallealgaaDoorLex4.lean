/-
  Proved: what a scanner's token returns. Conditions: as each theorem says.
-/
import Derived.Test.YtjanpaallealgaaDoorLex3
import Derived.RegionTactic
import Derived.BigRegion
import Derived.ChangeAlike
namespace Go.Proofs.YtjanpaallealgaaDoor.lex
open Go.RowKit
open flt (isD fv ofT ofE OfText_any)
open heap
open num (list_len drop_cons ret_pair)
set_option linter.unusedVariables false
set_option maxRecDepth 100000

theorem run_store_float {P : Program} {w : World} {a : Addr} {m : Mode} (x : Nat) : (store a (.float .f64 x) m).run P w = stored P w a (.float .f64 x) m := run_store P w a _ m rfl
attribute [local go_sem] run_store_float
abbrev tkV (k : Int) (t : ByteArray) (x : Nat) (a : Nat) : Value := .agg #[.int .i64 k, .string t, .float .f64 x, .int .i64 a]
def TkAt (w : World) (b : Nat) (k : Int) (t : ByteArray) (x : Nat) (a : Nat) : Prop := w.heap[b]? = some (.cells #[.int .i64 k, .string t, .float .f64 x, .int .i64 a] 30 (0, 0))
theorem TkAt.cells {w : World} {b : Nat} {k : Int} {t : ByteArray} {x a : Nat} (h : TkAt w b k t x a) : w.cell? ⟨b, 0, none⟩ = some (.int .i64 k) ∧ w.cell? ⟨b, 1, none⟩ = some (.string t) ∧ w.cell? ⟨b, 2, none⟩ = some (.float .f64 x) ∧ w.cell? ⟨b, 3, none⟩ = some (.int .i64 a) ∧
    w.frozen? ⟨b, 0, none⟩ = false ∧ w.frozen? ⟨b, 1, none⟩ = false ∧ w.frozen? ⟨b, 2, none⟩ = false ∧ w.frozen? ⟨b, 3, none⟩ = false ∧ b < w.heap.size :=
  ⟨by rw [blk_cell h]; rfl, by rw [blk_cell h]; rfl, by rw [blk_cell h]; rfl, by rw [blk_cell h]; rfl, blk_free h 0, blk_free h 1, blk_free h 2, blk_free h 3, blk_lt h⟩
theorem TkAt.below {w w' : World} {b : Nat} {k : Int} {t : ByteArray} {x a : Nat} (h : TkAt w b k t x a) (hb : Below w.heap.size w w') : TkAt w' b k t x a := blk_below h hb
theorem TkAt.set4 {w : World} {b : Nat} {k0 : Int} {t0 : ByteArray} {x0 a0 : Nat} (h : TkAt w b k0 t0 x0 a0) (k : Int) (t : ByteArray) (x a : Nat) :
    TkAt ((((w.setCell ⟨b, 0, none⟩ (.int .i64 k)).setCell ⟨b, 1, none⟩ (.string t)).setCell ⟨b, 2, none⟩ (.float .f64 x)).setCell ⟨b, 3, none⟩ (.int .i64 a)) b k t x a := by
  have h1 := blk_set h 0 (.int .i64 k)
  have h2 := blk_set h1 1 (.string t)
  have h3 := blk_set h2 2 (.float .f64 x)
  have h4 := blk_set h3 3 (.int .i64 a)
  exact h4
theorem TkAt.other2 {w : World} {b c : Nat} {k : Int} {t : ByteArray} {x a : Nat} (h : TkAt w b k t x a) (hn : b ≠ c) (u v : Value) : TkAt ((w.setCell ⟨c, 0, none⟩ u).setCell ⟨c, 1, none⟩ v) b k t x a := by
  unfold TkAt; rw [blk_other hn, blk_other hn]; exact h
theorem ScAt.other4 {w : World} {b c k : Nat} {s : ByteArray} (h : ScAt w b s k) (hn : b ≠ c) (u v u' v' : Value) : ScAt ((((w.setCell ⟨c, 0, none⟩ u).setCell ⟨c, 1, none⟩ v).setCell ⟨c, 2, none⟩ u').setCell ⟨c, 3, none⟩ v') b s k := by
  unfold ScAt; rw [blk_other hn, blk_other hn, blk_other hn, blk_other hn]; exact h
theorem TkAt.drew' {w : World} {b : Nat} {k : Int} {t : ByteArray} {x a : Nat} (h : TkAt w b k t x a) : TkAt w.drew b k t x a := h
theorem ScAt.drew' {w : World} {b k : Nat} {s : ByteArray} (h : ScAt w b s k) : ScAt w.drew b s k := h
abbrev w4 (w : World) (s : ByteArray) (a : Nat) : World := (((w.alloc (.cells #[.string s, .int .i64 a] 37)).alloc (.cells #[.int .i64 0, .string ⟨#[]⟩, .float .f64 0, .int .i64 0] 30)).alloc (.cells #[.string ⟨#[]⟩, .int .i64 0] 37)).alloc (.cells #[.int .i64 0, .string ⟨#[]⟩, .float .f64 0, .int .i64 a] 30)
/-- What token's own blocks hold. -/
structure TF (w : World) (s : ByteArray) (a : Nat) (k : Int) (t : ByteArray) (x : Nat) (w1 : World) : Prop where
  sc : ScAt w1 w.heap.size s a
  r1 : TkAt w1 (w.heap.size + 1) 0 ⟨#[]⟩ 0 0
  r2 : ScAt w1 (w.heap.size + 1 + 1) ⟨#[]⟩ 0
  tk : TkAt w1 (w.heap.size + 1 + 1 + 1) k t x a
  bl : Below w.heap.size w w1
theorem TF.start (w : World) (s : ByteArray) (a : Nat) : TF w s a 0 ⟨#[]⟩ 0 (w4 w s a) := by
  refine ⟨?_, ?_, ?_, ?_, ?_⟩
  · exact blk_old (blk_old (blk_old (blk_new _ _) _) _) _
  · have := blk_new (w.alloc (.cells #[.string s, .int .i64 a] 37)) (.cells #[.int .i64 0, .string ⟨#[]⟩, .float .f64 0, .int .i64 0] 30)
    exact blk_old (blk_old (by simpa using this) _) _
  · have := blk_new ((w.alloc (.cells #[.string s, .int .i64 a] 37)).alloc (.cells #[.int .i64 0, .string ⟨#[]⟩, .float .f64 0, .int .i64 0] 30)) (.cells #[.string ⟨#[]⟩, .int .i64 0] 37)
    exact blk_old (by simpa using this) _
  · have := blk_new (((w.alloc (.cells #[.string s, .int .i64 a] 37)).alloc (.cells #[.int .i64 0, .string ⟨#[]⟩, .float .f64 0, .int .i64 0] 30)).alloc (.cells #[.string ⟨#[]⟩, .int .i64 0] 37)) (.cells #[.int .i64 0, .string ⟨#[]⟩, .float .f64 0, .int .i64 a] 30)
    unfold TkAt
    simpa using this
  · exact ((((Below.refl _ _).alloc (Nat.le_refl _) _).alloc (by simp) _).alloc (by simp; omega) _).alloc (by simp; omega) _
theorem TF.below {w w1 w2 : World} {s : ByteArray} {a : Nat} {k : Int} {t : ByteArray} {x : Nat} (h : TF w s a k t x w1) (hb : Below w1.heap.size w1 w2) : TF w s a k t x w2 :=
  ⟨h.sc.below hb, h.r1.below hb, h.r2.below hb, h.tk.below hb, h.bl.trans (hb.mono h.bl.size)⟩
/-- What is returned is read out of the result's two blocks. -/
structure TR (w : World) (k : Int) (t : ByteArray) (x a : Nat) (s : ByteArray) (n : Nat) (w1 : World) : Prop where
  r1 : TkAt w1 (w.heap.size + 1) k t x a
  r2 : ScAt w1 (w.heap.size + 1 + 1) s n
  bl : Below w.heap.size w w1
theorem TF.out {w w1 : World} {s0 : ByteArray} {a0 : Nat} {k0 : Int} {t0 : ByteArray} {x0 : Nat} (h : TF w s0 a0 k0 t0 x0 w1) (k : Int) (t : ByteArray) (x a : Nat) (s : ByteArray) (n : Nat) :
    TR w k t x a s n (((((((w1.setCell ⟨w.heap.size + 1, 0, none⟩ (.int .i64 k)).setCell ⟨w.heap.size + 1, 1, none⟩ (.string t)).setCell ⟨w.heap.size + 1, 2, none⟩ (.float .f64 x)).setCell ⟨w.heap.size + 1, 3, none⟩ (.int .i64 a)).setCell ⟨w.heap.size + 1 + 1, 0, none⟩ (.string s)).setCell ⟨w.heap.size + 1 + 1, 1, none⟩ (.int .i64 n)).drew) := by
  refine ⟨((h.r1.set4 k t x a).other2 (by omega) _ _).drew', ((h.r2.other4 (by omega) _ _ _ _).set2 s n).drew', ?_⟩
  exact ((((((h.bl.setCell (by simp) _).setCell (by simp) _).setCell (by simp) _).setCell (by simp) _).setCell (by simp; omega) _).setCell (by simp; omega) _).drew
set_option maxHeartbeats 2000000 in
theorem tk_end (s R : ByteArray) (a : Nat) (w : World) (hR : R.toList = []) (HR : Hid (∀ W, Calls Tryd.prog 12 #[scV s a] W fun e w' => e = .returned (.string R) ∧ Below W.heap.size W w')) :
    Calls Tryd.prog 10 #[scV s a] w fun e w' => e = .returned (.tuple #[tkV 0 ⟨#[]⟩ 0 a, scV s a, .int .i64 0]) ∧ Below w.heap.size w w' := by
  have HF := Lib.hid (TF.start w s a)
  go_enter Tryd.func10, Tryd.ntmps10
  go_wp2_with fail
  refine (HR.out (w4 w s a)).mono ?_
  rintro e w1 ⟨rfl, hb1⟩
  have HF1 := Lib.hid (HF.out.below hb1)
  clear hb1 HF
  obtain ⟨c0, c1, f0, f1, hl0⟩ := HF1.out.sc.cells
  obtain ⟨d0, d1, d2, d3, g0, g1, g2, g3, hl1⟩ := HF1.out.r1.cells
  obtain ⟨p0, p1, q0, q1, hl2⟩ := HF1.out.r2.cells
  obtain ⟨m0, m1, m2, m3, n0, n1, n2, n3, hl3⟩ := HF1.out.tk.cells
  go_wp2_with fail
  go_region
  all_goals
    go_wp2
    have hT := HF1.out.out 0 ⟨#[]⟩ 0 a s a
    obtain ⟨e0, e1, e2, e3, _⟩ := hT.r1.cells
    obtain ⟨e4, e5, _⟩ := hT.r2.cells
    exact bodyPost_ret (v := .tuple #[tkV 0 ⟨#[]⟩ 0 a, scV s a, .int .i64 0]) (by simp [results, Tryd.results10, go_sem, e0, e1, e2, e3, e4, e5]) rfl ⟨rfl, hT.bl⟩
end Go.Proofs.YtjanpaallealgaaDoor.lex
