/-
  Proved: the ways of a scanner's token (written by wip/bin/lex5.py). Conditions: as each theorem says.
-/
import Derived.Test.YtjanpaallealgaaDoorLex4
import Derived.Deep.RegionWith
namespace Go.Proofs.YtjanpaallealgaaDoor.lex
open Go.RowKit
open flt (isD fv ofT ofE OfText_any)
open heap
open num (list_len drop_cons ret_pair bcell)
set_option linter.unusedVariables false
set_option maxRecDepth 100000
attribute [local go_sem] run_store_float

theorem TF.put2 {w w1 : World} {s : ByteArray} {a : Nat} {k0 : Int} {t0 : ByteArray} {x : Nat} (h : TF w s a k0 t0 x w1) (k : Int) (t : ByteArray) :
    TF w s a k t x ((w1.setCell ⟨w.heap.size + 1 + 1 + 1, 0, none⟩ (.int .i64 k)).setCell ⟨w.heap.size + 1 + 1 + 1, 1, none⟩ (.string t)) := by
  refine ⟨h.sc.other (by omega) _ _, h.r1.other2 (by omega) _ _, h.r2.other (by omega) _ _, ?_, (h.bl.setCell (by simp; omega) _).setCell (by simp; omega) _⟩
  have h1 := blk_set h.tk 0 (.int .i64 k)
  have h2 := blk_set h1 1 (.string t)
  exact h2
theorem TF.drew' {w w1 : World} {s : ByteArray} {a : Nat} {k : Int} {t : ByteArray} {x : Nat} (h : TF w s a k t x w1) : TF w s a k t x w1.drew := ⟨h.sc, h.r1, h.r2, h.tk, h.bl.drew⟩
def outW (w w1 : World) (k : Int) (t : ByteArray) (x a : Nat) (s : ByteArray) (n : Nat) : World := (((((w1.setCell ⟨w.heap.size + 1, 0, none⟩ (.int .i64 k)).setCell ⟨w.heap.size + 1, 1, none⟩ (.string t)).setCell ⟨w.heap.size + 1, 2, none⟩ (.float .f64 x)).setCell ⟨w.heap.size + 1, 3, none⟩ (.int .i64 a)).setCell ⟨w.heap.size + 1 + 1, 0, none⟩ (.string s)).setCell ⟨w.heap.size + 1 + 1, 1, none⟩ (.int .i64 n)
theorem TF.outN {w w1 : World} {s0 : ByteArray} {a0 : Nat} {k0 : Int} {t0 : ByteArray} {x0 : Nat} (h : TF w s0 a0 k0 t0 x0 w1) (k : Int) (t : ByteArray) (x a : Nat) (s : ByteArray) (n : Nat) :
    TR w k t x a s n (outW w w1 k t x a s n) := by
  refine ⟨(h.r1.set4 k t x a).other2 (by omega) _ _, (h.r2.other4 (by omega) _ _ _ _).set2 s n, ?_⟩
  exact (((((h.bl.setCell (by simp) _).setCell (by simp) _).setCell (by simp) _).setCell (by simp) _).setCell (by simp; omega) _).setCell (by simp; omega) _
set_option maxHeartbeats 4000000 in
theorem tk_long (s R : ByteArray) (a : Nat) (w : World) (hz : R.size ≤ 1000000000) (ha : a + R.size ≤ 2000000000) (h0 : 0 < R.size) (hE : R.toList.isEmpty = false) (HR : Hid (∀ W, Calls Tryd.prog 12 #[scV s a] W fun e w' => e = .returned (.string R) ∧ Below W.heap.size W w'))
    (HL : Hid (∀ W, Calls Tryd.prog 17 #[.int .u8 (R[0].toNat : Int)] W fun e w' => e = .returned (.bool true) ∧ W = w')) (n : Nat) (hn : n ≤ R.size) (HN : Hid (∀ W, Calls Tryd.prog 11 #[.string R, .func (.func 18) #[] #[]] W fun e w' => e = .returned (.int .i64 n) ∧ W = w')) (hlong : 32 < n) :
    Calls Tryd.prog 10 #[scV s a] w fun e w' => e = .returned (.tuple #[tkV 0 ⟨#[]⟩ 0 a, scV s a, .int .i64 1800]) ∧ Below w.heap.size w w' := by
  have HF := Lib.hid (TF.start w s a)
  go_enter Tryd.func10, Tryd.ntmps10
  go_wp2_with fail
  refine (HR.out (w4 w s a)).mono ?_
  rintro e w1 ⟨rfl, hb1⟩
  have HF1 := Lib.hid (HF.out.below hb1)
  clear hb1 HF
  obtain ⟨c0, c1, f0, f1, hl0⟩ := HF1.out.sc.cells
  obtain ⟨d0, d1, d2, d3, g0, g1, g2, g3, hl1⟩ := HF1.out.r1.cells
  obtain ⟨p0, p1, q0, q1, hl2⟩ := HF1.out.r2.cells
  obtain ⟨m0, m1, m2, m3, n0, n1, n2, n3, hl3⟩ := HF1.out.tk.cells
  have hd : decide (32 < (n : Int)) = true := decide_eq_true (by omega)
  go_wp2_with (first | (go_at_call 17; refine (HL.out _).mono ?_; rintro e w' ⟨rfl, rfl⟩) | (go_at_call 11; refine (HN.out _).mono ?_; rintro e w' ⟨rfl, rfl⟩))
  go_region
  all_goals
    go_wp2
    have hT := HF1.out.out 0 ⟨#[]⟩ 0 a s a
    obtain ⟨e0, e1, e2, e3, _⟩ := hT.r1.cells
    obtain ⟨e4, e5, _⟩ := hT.r2.cells
    exact bodyPost_ret (v := .tuple #[tkV 0 ⟨#[]⟩ 0 a, scV s a, .int .i64 1800]) (by simp [results, Tryd.results10, go_sem, e0, e1, e2, e3, e4, e5]) rfl ⟨rfl, hT.bl⟩
set_option maxHeartbeats 4000000 in
theorem tk_name (s R : ByteArray) (a : Nat) (w : World) (hz : R.size ≤ 1000000000) (ha : a + R.size ≤ 2000000000) (h0 : 0 < R.size) (hE : R.toList.isEmpty = false) (HR : Hid (∀ W, Calls Tryd.prog 12 #[scV s a] W fun e w' => e = .returned (.string R) ∧ Below W.heap.size W w'))
    (HL : Hid (∀ W, Calls Tryd.prog 17 #[.int .u8 (R[0].toNat : Int)] W fun e w' => e = .returned (.bool true) ∧ W = w')) (n : Nat) (hn : n ≤ R.size) (HN : Hid (∀ W, Calls Tryd.prog 11 #[.string R, .func (.func 18) #[] #[]] W fun e w' => e = .returned (.int .i64 n) ∧ W = w')) (hlong : n ≤ 32) (T : ByteArray) (hT0 : R.extract 0 n = T) :
    Calls Tryd.prog 10 #[scV s a] w fun e w' => e = .returned (.tuple #[tkV 1 T 0 a, scV s ((a + n : Nat) : Int), .int .i64 0]) ∧ Below w.heap.size w w' := by
  have HF := Lib.hid (TF.start w s a)
  go_enter Tryd.func10, Tryd.ntmps10
  go_wp2_with fail
  refine (HR.out (w4 w s a)).mono ?_
  rintro e w1 ⟨rfl, hb1⟩
  have HF1 := Lib.hid (HF.out.below hb1)
  clear hb1 HF
  obtain ⟨c0, c1, f0, f1, hl0⟩ := HF1.out.sc.cells
  obtain ⟨d0, d1, d2, d3, g0, g1, g2, g3, hl1⟩ := HF1.out.r1.cells
  obtain ⟨p0, p1, q0, q1, hl2⟩ := HF1.out.r2.cells
  obtain ⟨m0, m1, m2, m3, n0, n1, n2, n3, hl3⟩ := HF1.out.tk.cells
  have hd : decide (32 < (n : Int)) = false := decide_eq_false (by omega)
  have HO := Lib.hid (fun W => on_any s a n W (by omega))
  go_wp2_with (first | (go_at_call 17; refine (HL.out _).mono ?_; rintro e w' ⟨rfl, rfl⟩) | (go_at_call 11; refine (HN.out _).mono ?_; rintro e w' ⟨rfl, rfl⟩))
  go_region
  go_wp2
  have hF2 := (HF1.out.put2 1 T).drew'
  generalize ((w1.setCell ⟨w.heap.size + 1 + 1 + 1, 0, none⟩ (.int .i64 1)).setCell ⟨w.heap.size + 1 + 1 + 1, 1, none⟩ (.string T)).drew = w2 at hF2 ⊢
  have HF2 := Lib.hid hF2
  clear hF2 HF1 c0 c1 f0 f1 hl0 d0 d1 d2 d3 g0 g1 g2 g3 hl1 p0 p1 q0 q1 hl2 m0 m1 m2 m3 n0 n1 n2 n3 hl3
  obtain ⟨c0, c1, f0, f1, hl0⟩ := HF2.out.sc.cells
  obtain ⟨d0, d1, d2, d3, g0, g1, g2, g3, hl1⟩ := HF2.out.r1.cells
  obtain ⟨p0, p1, q0, q1, hl2⟩ := HF2.out.r2.cells
  obtain ⟨m0, m1, m2, m3, n0, n1, n2, n3, hl3⟩ := HF2.out.tk.cells
  go_region_with (go_at_call 16; refine (HO.out _).mono ?_; rintro e w3 ⟨rfl, hb3⟩; have hF3 : TF w s a 1 T 0 w3 := (by first | exact HF2.out.below hb3 | exact HF2.out.drew'.below hb3); clear hb3; obtain ⟨a0, a1, a2, a3, b0, b1, b2, b3, k1⟩ := hF3.r1.cells; obtain ⟨a4, a5, b4, b5, k2⟩ := hF3.r2.cells; obtain ⟨a6, a7, a8, a9, b6, b7, b8, b9, k3⟩ := hF3.tk.cells; obtain ⟨y0, y1, y2, y3, k4⟩ := hF3.sc.cells; have HF3 := Lib.hid hF3; clear hF3)
  all_goals
    go_wp2
    rw [show ((a : Int) + (n : Int)) = ((a + n : Nat) : Int) by omega]
    have hT := HF3.out.outN 1 T 0 a s (a + n)
    change bodyPost _ _ _ _ _ (outW w w3 1 T 0 a s (a + n))
    generalize outW w w3 1 T 0 a s (a + n) = W at hT ⊢
    obtain ⟨e0, e1, e2, e3, _⟩ := hT.r1.cells
    obtain ⟨e4, e5, _⟩ := hT.r2.cells
    exact bodyPost_ret (v := .tuple #[tkV 1 T 0 a, scV s ((a + n : Nat) : Int), .int .i64 0]) (by simp [results, Tryd.results10, go_sem, e0, e1, e2, e3, e4, e5]) rfl ⟨rfl, hT.bl⟩
end Go.Proofs.YtjanpaallealgaaDoor.lex
