/-
  Proved: the way of a scanner's token at a string (written by wip/bin/lex6.py). Conditions: as each theorem says.
-/
import Derived.Test.YtjanpaallealgaaDoorLex5
namespace Go.Proofs.YtjanpaallealgaaDoor.lex
open Go.RowKit
open flt (isD fv ofT ofE OfText_any)
open heap
open num (list_len drop_cons ret_pair bcell)
set_option linter.unusedVariables false
set_option maxRecDepth 100000
attribute [local go_sem] run_store_float

set_option maxHeartbeats 4000000 in
theorem tk_strbad (s R : ByteArray) (a : Nat) (w : World) (hz : R.size ≤ 1000000000) (ha : a + R.size ≤ 2000000000) (h0 : 0 < R.size) (hE : R.toList.isEmpty = false) (HR : Hid (∀ W, Calls Tryd.prog 12 #[scV s a] W fun e w' => e = .returned (.string R) ∧ Below W.heap.size W w'))
    (HL : Hid (∀ W, Calls Tryd.prog 17 #[.int .u8 (R[0].toNat : Int)] W fun e w' => e = .returned (.bool false) ∧ W = w')) (HD : Hid (∀ W, Calls Tryd.prog 19 #[.int .u8 (R[0].toNat : Int)] W fun e w' => e = .returned (.bool false) ∧ W = w')) (hq : ((R[0].toNat : Int) == 34) = true) (T : ByteArray) (n : Nat) (HT : Hid (∀ W, Calls Tryd.prog 21 #[.string R] W fun e w' => e = .returned (.tuple #[.string T, .int .i64 n]) ∧ Below W.heap.size W w')) (hn : n = 0) :
    Calls Tryd.prog 10 #[scV s a] w fun e w' => e = .returned (.tuple #[tkV 0 ⟨#[]⟩ 0 a, scV s a, .int .i64 1801]) ∧ Below w.heap.size w w' := by
  have HF := Lib.hid (TF.start w s a)
  go_enter Tryd.func10, Tryd.ntmps10
  go_wp2_with fail
  refine (HR.out (w4 w s a)).mono ?_
  rintro e w1 ⟨rfl, hb1⟩
  have HF1 := Lib.hid (HF.out.below hb1)
  clear hb1 HF
  obtain ⟨c0, c1, f0, f1, hl0⟩ := HF1.out.sc.cells
  obtain ⟨d0, d1, d2, d3, g0, g1, g2, g3, hl1⟩ := HF1.out.r1.cells
  obtain ⟨p0, p1, q0, q1, hl2⟩ := HF1.out.r2.cells
  obtain ⟨m0, m1, m2, m3, n0, n1, n2, n3, hl3⟩ := HF1.out.tk.cells
  subst hn
  go_wp2_with (first | (go_at_call 17; refine (HL.out _).mono ?_; rintro e w' ⟨rfl, rfl⟩) | (go_at_call 19; refine (HD.out _).mono ?_; rintro e w' ⟨rfl, rfl⟩))
  refine (HT.out _).mono ?_; rintro e w2 ⟨rfl, hb2⟩
  have HF2 := Lib.hid (HF1.out.below hb2)
  clear hb2 HF1 c0 c1 f0 f1 hl0 d0 d1 d2 d3 g0 g1 g2 g3 hl1 p0 p1 q0 q1 hl2 m0 m1 m2 m3 n0 n1 n2 n3 hl3
  obtain ⟨c0, c1, f0, f1, hl0⟩ := HF2.out.sc.cells
  obtain ⟨d0, d1, d2, d3, g0, g1, g2, g3, hl1⟩ := HF2.out.r1.cells
  obtain ⟨p0, p1, q0, q1, hl2⟩ := HF2.out.r2.cells
  obtain ⟨m0, m1, m2, m3, n0, n1, n2, n3, hl3⟩ := HF2.out.tk.cells
  go_wp2_with fail
  go_region
  all_goals
    go_wp2
    have hT := HF2.out.out 0 ⟨#[]⟩ 0 a s a
    obtain ⟨e0, e1, e2, e3, _⟩ := hT.r1.cells
    obtain ⟨e4, e5, _⟩ := hT.r2.cells
    exact bodyPost_ret (v := .tuple #[tkV 0 ⟨#[]⟩ 0 a, scV s a, .int .i64 1801]) (by simp [results, Tryd.results10, go_sem, e0, e1, e2, e3, e4, e5]) rfl ⟨rfl, hT.bl⟩
set_option maxHeartbeats 4000000 in
theorem tk_str (s R : ByteArray) (a : Nat) (w : World) (hz : R.size ≤ 1000000000) (ha : a + R.size ≤ 2000000000) (h0 : 0 < R.size) (hE : R.toList.isEmpty = false) (HR : Hid (∀ W, Calls Tryd.prog 12 #[scV s a] W fun e w' => e = .returned (.string R) ∧ Below W.heap.size W w'))
    (HL : Hid (∀ W, Calls Tryd.prog 17 #[.int .u8 (R[0].toNat : Int)] W fun e w' => e = .returned (.bool false) ∧ W = w')) (HD : Hid (∀ W, Calls Tryd.prog 19 #[.int .u8 (R[0].toNat : Int)] W fun e w' => e = .returned (.bool false) ∧ W = w')) (hq : ((R[0].toNat : Int) == 34) = true) (T : ByteArray) (n : Nat) (HT : Hid (∀ W, Calls Tryd.prog 21 #[.string R] W fun e w' => e = .returned (.tuple #[.string T, .int .i64 n]) ∧ Below W.heap.size W w')) (hn : 1 ≤ n) (hn2 : n ≤ R.size) :
    Calls Tryd.prog 10 #[scV s a] w fun e w' => e = .returned (.tuple #[tkV 3 T 0 a, scV s ((a + n : Nat) : Int), .int .i64 0]) ∧ Below w.heap.size w w' := by
  have HF := Lib.hid (TF.start w s a)
  go_enter Tryd.func10, Tryd.ntmps10
  go_wp2_with fail
  refine (HR.out (w4 w s a)).mono ?_
  rintro e w1 ⟨rfl, hb1⟩
  have HF1 := Lib.hid (HF.out.below hb1)
  clear hb1 HF
  obtain ⟨c0, c1, f0, f1, hl0⟩ := HF1.out.sc.cells
  obtain ⟨d0, d1, d2, d3, g0, g1, g2, g3, hl1⟩ := HF1.out.r1.cells
  obtain ⟨p0, p1, q0, q1, hl2⟩ := HF1.out.r2.cells
  obtain ⟨m0, m1, m2, m3, n0, n1, n2, n3, hl3⟩ := HF1.out.tk.cells
  have hn0 : ((n : Int) == 0) = false := beq_eq_false_iff_ne.2 (by omega)
  have HO := Lib.hid (fun W => on_any s a n W (by omega))
  go_wp2_with (first | (go_at_call 17; refine (HL.out _).mono ?_; rintro e w' ⟨rfl, rfl⟩) | (go_at_call 19; refine (HD.out _).mono ?_; rintro e w' ⟨rfl, rfl⟩))
  refine (HT.out _).mono ?_; rintro e w2 ⟨rfl, hb2⟩
  have HF2 := Lib.hid (HF1.out.below hb2)
  clear hb2 HF1 c0 c1 f0 f1 hl0 d0 d1 d2 d3 g0 g1 g2 g3 hl1 p0 p1 q0 q1 hl2 m0 m1 m2 m3 n0 n1 n2 n3 hl3
  obtain ⟨c0, c1, f0, f1, hl0⟩ := HF2.out.sc.cells
  obtain ⟨d0, d1, d2, d3, g0, g1, g2, g3, hl1⟩ := HF2.out.r1.cells
  obtain ⟨p0, p1, q0, q1, hl2⟩ := HF2.out.r2.cells
  obtain ⟨m0, m1, m2, m3, n0, n1, n2, n3, hl3⟩ := HF2.out.tk.cells
  go_wp2_with fail
  have HF1 := Lib.hid (HF2.out.put2 3 T)
  clear HF2
  have hF2 := HF1.out
  generalize (w2.setCell ⟨w.heap.size + 1 + 1 + 1, 0, none⟩ (.int .i64 3)).setCell ⟨w.heap.size + 1 + 1 + 1, 1, none⟩ (.string T) = w5 at hF2 ⊢
  have HF2 := Lib.hid hF2
  clear hF2 HF1 c0 c1 f0 f1 hl0 d0 d1 d2 d3 g0 g1 g2 g3 hl1 p0 p1 q0 q1 hl2 m0 m1 m2 m3 n0 n1 n2 n3 hl3
  obtain ⟨c0, c1, f0, f1, hl0⟩ := HF2.out.sc.cells
  obtain ⟨d0, d1, d2, d3, g0, g1, g2, g3, hl1⟩ := HF2.out.r1.cells
  obtain ⟨p0, p1, q0, q1, hl2⟩ := HF2.out.r2.cells
  obtain ⟨m0, m1, m2, m3, n0, n1, n2, n3, hl3⟩ := HF2.out.tk.cells
  go_region_with (go_at_call 16; refine (HO.out _).mono ?_; rintro e w3 ⟨rfl, hb3⟩; have hF3 : TF w s a 3 T 0 w3 := (by first | exact HF2.out.below hb3 | exact HF2.out.drew'.below hb3); clear hb3; obtain ⟨a0, a1, a2, a3, b0, b1, b2, b3, k1⟩ := hF3.r1.cells; obtain ⟨a4, a5, b4, b5, k2⟩ := hF3.r2.cells; obtain ⟨a6, a7, a8, a9, b6, b7, b8, b9, k3⟩ := hF3.tk.cells; obtain ⟨y0, y1, y2, y3, k4⟩ := hF3.sc.cells; have HF3 := Lib.hid hF3; clear hF3)
  all_goals
    go_wp2
    rw [show ((a : Int) + (n : Int)) = ((a + n : Nat) : Int) by omega]
    have hT := HF3.out.outN 3 T 0 a s (a + n)
    change bodyPost _ _ _ _ _ (outW w w3 3 T 0 a s (a + n))
    generalize outW w w3 3 T 0 a s (a + n) = W at hT ⊢
    obtain ⟨e0, e1, e2, e3, _⟩ := hT.r1.cells
    obtain ⟨e4, e5, _⟩ := hT.r2.cells
    exact bodyPost_ret (v := .tuple #[tkV 3 T 0 a, scV s ((a + n : Nat) : Int), .int .i64 0]) (by simp [results, Tryd.results10, go_sem, e0, e1, e2, e3, e4, e5]) rfl ⟨rfl, hT.bl⟩
end Go.Proofs.YtjanpaallealgaaDoor.lex
