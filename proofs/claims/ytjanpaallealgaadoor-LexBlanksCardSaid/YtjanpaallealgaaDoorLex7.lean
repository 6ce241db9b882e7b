/-
  Proved: the way of a scanner's token at a number (written by wip/bin/lex7.py). Conditions: as each theorem says.
-/
import Derived.Test.YtjanpaallealgaaDoorLex5
import Derived.Deep.CutRange
namespace Go.Proofs.YtjanpaallealgaaDoor.lex
open Go.RowKit
open flt (isD fv ofT ofE OfText_any)
open heap
open num (list_len drop_cons ret_pair bcell)
set_option linter.unusedVariables false
set_option maxRecDepth 100000
attribute [local go_sem] run_store_float

theorem TF.put3 {w w1 : World} {s : ByteArray} {a : Nat} {k0 : Int} {t0 : ByteArray} {x0 : Nat} (h : TF w s a k0 t0 x0 w1) (k : Int) (t : ByteArray) (x : Nat) :
    TF w s a k t x (((w1.setCell ⟨w.heap.size + 1 + 1 + 1, 0, none⟩ (.int .i64 k)).setCell ⟨w.heap.size + 1 + 1 + 1, 1, none⟩ (.string t)).setCell ⟨w.heap.size + 1 + 1 + 1, 2, none⟩ (.float .f64 x)) := by
  have h0 := h.put2 k t
  refine ⟨?_, ?_, ?_, ?_, h0.bl.setCell (by simp; omega) _⟩
  · unfold ScAt; rw [blk_other (by omega)]; exact h0.sc
  · unfold TkAt; rw [blk_other (by omega)]; exact h0.r1
  · unfold ScAt; rw [blk_other (by omega)]; exact h0.r2
  · exact blk_set h0.tk 2 (.float .f64 x)
set_option maxHeartbeats 4000000 in
theorem tk_num (s R : ByteArray) (a : Nat) (w : World) (hz : R.size ≤ 1000000000) (ha : a + R.size ≤ 2000000000) (h0 : 0 < R.size) (hE : R.toList.isEmpty = false) (HR : Hid (∀ W, Calls Tryd.prog 12 #[scV s a] W fun e w' => e = .returned (.string R) ∧ Below W.heap.size W w'))
    (HL : Hid (∀ W, Calls Tryd.prog 17 #[.int .u8 (R[0].toNat : Int)] W fun e w' => e = .returned (.bool false) ∧ W = w')) (HD : Hid (∀ W, Calls Tryd.prog 19 #[.int .u8 (R[0].toNat : Int)] W fun e w' => e = .returned (.bool true) ∧ W = w'))
    (N0 n : Nat) (b : Bool) (hn0 : N0 ≤ R.size) (hnn : n ≤ R.size) (HN : Hid (∀ W, Calls Tryd.prog 11 #[.string R, .func (.func 19) #[] #[]] W fun e w' => e = .returned (.int .i64 N0) ∧ W = w'))
    (HP : Hid ((R.size ≤ N0 + 1 ∧ b = false) ∨ (∃ h : N0 + 1 < R.size, ((R[N0].toNat : Int) == 46) = false ∧ b = false) ∨
      (∃ h : N0 + 1 < R.size, ((R[N0].toNat : Int) == 46) = true ∧ Hid (∀ W, Calls Tryd.prog 19 #[.int .u8 (R[N0 + 1].toNat : Int)] W fun e w' => e = .returned (.bool b) ∧ W = w'))))
    (HQ : Hid ((b = false ∧ n = N0) ∨ (b = true ∧ N0 + 1 < R.size ∧ ∃ m : Nat, Hid (∀ W, Calls Tryd.prog 11 #[.string (R.extract (N0 + 1) R.size), .func (.func 19) #[] #[]] W fun e w' => e = .returned (.int .i64 m) ∧ W = w') ∧ n = N0 + (1 + m))))
    (T : ByteArray) (hT0 : R.extract 0 n = T) (x : Nat) (er : Int) (HX : Hid (∀ W, Calls Tryd.prog 20 #[.string T] W fun e w' => e = .returned (.tuple #[fv x, .int .i64 er]) ∧ Below W.heap.size W w'))
    (V : Value) (HS : Hid ((er ≠ 0 ∧ V = .tuple #[tkV 0 ⟨#[]⟩ 0 a, scV s a, .int .i64 1802]) ∨ (er = 0 ∧ R.size ≤ n ∧ V = .tuple #[tkV 2 T x a, scV s ((a + n : Nat) : Int), .int .i64 0]) ∨
      (er = 0 ∧ ∃ h : n < R.size, Hid (∀ W, Calls Tryd.prog 17 #[.int .u8 (R[n].toNat : Int)] W fun e w' => e = .returned (.bool true) ∧ W = w') ∧ V = .tuple #[tkV 0 ⟨#[]⟩ 0 a, scV s a, .int .i64 1802]) ∨
      (er = 0 ∧ ∃ h : n < R.size, Hid (∀ W, Calls Tryd.prog 17 #[.int .u8 (R[n].toNat : Int)] W fun e w' => e = .returned (.bool false) ∧ W = w') ∧ ((R[n].toNat : Int) == 46) = true ∧ V = .tuple #[tkV 0 ⟨#[]⟩ 0 a, scV s a, .int .i64 1802]) ∨
      (er = 0 ∧ ∃ h : n < R.size, Hid (∀ W, Calls Tryd.prog 17 #[.int .u8 (R[n].toNat : Int)] W fun e w' => e = .returned (.bool false) ∧ W = w') ∧ ((R[n].toNat : Int) == 46) = false ∧ V = .tuple #[tkV 2 T x a, scV s ((a + n : Nat) : Int), .int .i64 0]))) :
    Calls Tryd.prog 10 #[scV s a] w fun e w' => e = .returned (V) ∧ Below w.heap.size w w' := by
  have HF := Lib.hid (TF.start w s a)
  go_enter Tryd.func10, Tryd.ntmps10
  go_wp2_with fail
  refine (HR.out (w4 w s a)).mono ?_
  rintro e w1 ⟨rfl, hb1⟩
  have HF1 := Lib.hid (HF.out.below hb1)
  clear hb1 HF
  obtain ⟨c0, c1, f0, f1, hl0⟩ := HF1.out.sc.cells
  obtain ⟨d0, d1, d2, d3, g0, g1, g2, g3, hl1⟩ := HF1.out.r1.cells
  obtain ⟨p0, p1, q0, q1, hl2⟩ := HF1.out.r2.cells
  obtain ⟨m0, m1, m2, m3, n0, n1, n2, n3, hl3⟩ := HF1.out.tk.cells
  go_upto_region 13 with (first | (go_at_call 17; refine (HL.out _).mono ?_; rintro e w' ⟨rfl, rfl⟩) | (go_at_call 19; refine (HD.out _).mono ?_; rintro e w' ⟨rfl, rfl⟩) | (go_at_call 11; refine (HN.out _).mono ?_; rintro e w' ⟨rfl, rfl⟩))
  go_cut [67] from 50 to 66 (fun s67 wx => s67 = .bool b ∧ wx = w1)
  case first =>
    clear HS HX HR HQ
    rcases HP.out with ⟨h1, rfl⟩ | ⟨h1, h2, rfl⟩ | ⟨h1, h2, HG⟩
    · clear HP
      have hl : decide ((N0 : Int) + 1 < R.size) = false := decide_eq_false (by omega)
      go_wp2_with fail
      go_meet
      exact ⟨rfl, rfl⟩
    · clear HP
      have hl : decide ((N0 : Int) + 1 < R.size) = true := decide_eq_true (by omega)
      have h3 : N0 < R.size := by omega
      go_wp2_with fail
      go_meet
      exact ⟨rfl, rfl⟩
    · clear HP
      have hl : decide ((N0 : Int) + 1 < R.size) = true := decide_eq_true (by omega)
      have h3 : N0 < R.size := by omega
      go_wp2_with (go_at_call 19; refine (HG.out _).mono ?_; rintro e w' ⟨rfl, rfl⟩)
      go_meet
      exact ⟨rfl, rfl⟩
  case rest =>
  obtain ⟨rfl, rfl⟩ := hcut
  clear HP HN
  go_upto_if 67 with (fail)
  go_cut [8] from 68 to 75 (fun s8 wx => s8 = .int .i64 (n : Nat) ∧ wx = wc)
  case first =>
    clear HS HX HR
    rcases HQ.out with ⟨rfl, rfl⟩ | ⟨rfl, h1, m, HM, rfl⟩
    · clear HQ
      go_wp2_with fail
      go_meet
      exact ⟨rfl, rfl⟩
    · clear HQ
      go_wp2_with (go_at_call 11; refine (HM.out _).mono ?_; rintro e w' ⟨rfl, rfl⟩)
      go_meet
      exact ⟨by first | rfl | (congr 1; omega), rfl⟩
  case rest =>
    obtain ⟨rfl, rfl⟩ := hcut
    clear HQ
    go_wp2_with fail
    refine (HX.out _).mono ?_; rintro e w2 ⟨rfl, hb2⟩
    have HF2 := Lib.hid (HF1.out.below hb2)
    clear hb2 HF1 c0 c1 f0 f1 hl0 d0 d1 d2 d3 g0 g1 g2 g3 hl1 p0 p1 q0 q1 hl2 m0 m1 m2 m3 n0 n1 n2 n3 hl3
    obtain ⟨c0, c1, f0, f1, hl0⟩ := HF2.out.sc.cells
    obtain ⟨d0, d1, d2, d3, g0, g1, g2, g3, hl1⟩ := HF2.out.r1.cells
    obtain ⟨p0, p1, q0, q1, hl2⟩ := HF2.out.r2.cells
    obtain ⟨m0, m1, m2, m3, n0, n1, n2, n3, hl3⟩ := HF2.out.tk.cells
    rcases HS.out with ⟨h1, rfl⟩ | ⟨rfl, h1, rfl⟩ | ⟨rfl, h1, HG, rfl⟩ | ⟨rfl, h1, HG, h2, rfl⟩ | ⟨rfl, h1, HG, h2, rfl⟩
    · clear HS
      have h2 : (er == 0) = false := beq_eq_false_iff_ne.2 h1
      go_wp2_with fail
      go_region
      all_goals
        go_wp2
        have hT := HF2.out.out 0 ⟨#[]⟩ 0 a s a
        obtain ⟨e0, e1, e2, e3, _⟩ := hT.r1.cells
        obtain ⟨e4, e5, _⟩ := hT.r2.cells
        exact bodyPost_ret (v := .tuple #[tkV 0 ⟨#[]⟩ 0 a, scV s a, .int .i64 1802]) (by simp [results, Tryd.results10, go_sem, e0, e1, e2, e3, e4, e5]) rfl ⟨rfl, hT.bl⟩
    · clear HS
      have hl : decide ((n : Int) < R.size) = false := decide_eq_false (by omega)
      go_wp2_with fail
      have HO := Lib.hid (fun W => on_any s a n W (by omega))
      go_region
      go_wp2
      have HF1 := Lib.hid (HF2.out.put3 2 T x).drew'
      clear HF2
      have hF2 := HF1.out
      generalize (((w2.setCell ⟨w.heap.size + 1 + 1 + 1, 0, none⟩ (.int .i64 2)).setCell ⟨w.heap.size + 1 + 1 + 1, 1, none⟩ (.string T)).setCell ⟨w.heap.size + 1 + 1 + 1, 2, none⟩ (.float .f64 x)).drew = w5 at hF2 ⊢
      have HF2 := Lib.hid hF2
      clear hF2 HF1 c0 c1 f0 f1 hl0 d0 d1 d2 d3 g0 g1 g2 g3 hl1 p0 p1 q0 q1 hl2 m0 m1 m2 m3 n0 n1 n2 n3 hl3
      obtain ⟨c0, c1, f0, f1, hl0⟩ := HF2.out.sc.cells
      obtain ⟨d0, d1, d2, d3, g0, g1, g2, g3, hl1⟩ := HF2.out.r1.cells
      obtain ⟨p0, p1, q0, q1, hl2⟩ := HF2.out.r2.cells
      obtain ⟨m0, m1, m2, m3, n0, n1, n2, n3, hl3⟩ := HF2.out.tk.cells
      go_region_with (go_at_call 16; refine (HO.out _).mono ?_; rintro e w3 ⟨rfl, hb3⟩; have hF3 : TF w s a 2 T x w3 := (by first | exact HF2.out.below hb3 | exact HF2.out.drew'.below hb3); clear hb3; obtain ⟨a0, a1, a2, a3, b0, b1, b2, b3, k1⟩ := hF3.r1.cells; obtain ⟨a4, a5, b4, b5, k2⟩ := hF3.r2.cells; obtain ⟨a6, a7, a8, a9, b6, b7, b8, b9, k3⟩ := hF3.tk.cells; obtain ⟨y0, y1, y2, y3, k4⟩ := hF3.sc.cells; have HF3 := Lib.hid hF3; clear hF3)
      all_goals
        go_wp2
        rw [show ((a : Int) + (n : Int)) = ((a + n : Nat) : Int) by omega]
        have hT := HF3.out.outN 2 T x a s (a + n)
        change bodyPost _ _ _ _ _ (outW w w3 2 T x a s (a + n))
        generalize outW w w3 2 T x a s (a + n) = W at hT ⊢
        obtain ⟨e0, e1, e2, e3, _⟩ := hT.r1.cells
        obtain ⟨e4, e5, _⟩ := hT.r2.cells
        exact bodyPost_ret (v := .tuple #[tkV 2 T x a, scV s ((a + n : Nat) : Int), .int .i64 0]) (by simp [results, Tryd.results10, go_sem, e0, e1, e2, e3, e4, e5]) rfl ⟨rfl, hT.bl⟩
    · clear HS
      have hl : decide ((n : Int) < R.size) = true := decide_eq_true (by omega)
      go_wp2_with (go_at_call 17; refine (HG.out _).mono ?_; rintro e w' ⟨rfl, rfl⟩)
      go_region
      all_goals
        go_wp2
        have hT := HF2.out.out 0 ⟨#[]⟩ 0 a s a
        obtain ⟨e0, e1, e2, e3, _⟩ := hT.r1.cells
        obtain ⟨e4, e5, _⟩ := hT.r2.cells
        exact bodyPost_ret (v := .tuple #[tkV 0 ⟨#[]⟩ 0 a, scV s a, .int .i64 1802]) (by simp [results, Tryd.results10, go_sem, e0, e1, e2, e3, e4, e5]) rfl ⟨rfl, hT.bl⟩
    · clear HS
      have hl : decide ((n : Int) < R.size) = true := decide_eq_true (by omega)
      go_wp2_with (go_at_call 17; refine (HG.out _).mono ?_; rintro e w' ⟨rfl, rfl⟩)
      go_region
      all_goals
        go_wp2
        have hT := HF2.out.out 0 ⟨#[]⟩ 0 a s a
        obtain ⟨e0, e1, e2, e3, _⟩ := hT.r1.cells
        obtain ⟨e4, e5, _⟩ := hT.r2.cells
        exact bodyPost_ret (v := .tuple #[tkV 0 ⟨#[]⟩ 0 a, scV s a, .int .i64 1802]) (by simp [results, Tryd.results10, go_sem, e0, e1, e2, e3, e4, e5]) rfl ⟨rfl, hT.bl⟩
    · clear HS
      have hl : decide ((n : Int) < R.size) = true := decide_eq_true (by omega)
      go_wp2_with (go_at_call 17; refine (HG.out _).mono ?_; rintro e w' ⟨rfl, rfl⟩)
      have HO := Lib.hid (fun W => on_any s a n W (by omega))
      go_region
      go_wp2
      have HF1 := Lib.hid (HF2.out.put3 2 T x).drew'
      clear HF2
      have hF2 := HF1.out
      generalize (((w2.setCell ⟨w.heap.size + 1 + 1 + 1, 0, none⟩ (.int .i64 2)).setCell ⟨w.heap.size + 1 + 1 + 1, 1, none⟩ (.string T)).setCell ⟨w.heap.size + 1 + 1 + 1, 2, none⟩ (.float .f64 x)).drew = w5 at hF2 ⊢
      have HF2 := Lib.hid hF2
      clear hF2 HF1 c0 c1 f0 f1 hl0 d0 d1 d2 d3 g0 g1 g2 g3 hl1 p0 p1 q0 q1 hl2 m0 m1 m2 m3 n0 n1 n2 n3 hl3
      obtain ⟨c0, c1, f0, f1, hl0⟩ := HF2.out.sc.cells
      obtain ⟨d0, d1, d2, d3, g0, g1, g2, g3, hl1⟩ := HF2.out.r1.cells
      obtain ⟨p0, p1, q0, q1, hl2⟩ := HF2.out.r2.cells
      obtain ⟨m0, m1, m2, m3, n0, n1, n2, n3, hl3⟩ := HF2.out.tk.cells
      go_region_with (go_at_call 16; refine (HO.out _).mono ?_; rintro e w3 ⟨rfl, hb3⟩; have hF3 : TF w s a 2 T x w3 := (by first | exact HF2.out.below hb3 | exact HF2.out.drew'.below hb3); clear hb3; obtain ⟨a0, a1, a2, a3, b0, b1, b2, b3, k1⟩ := hF3.r1.cells; obtain ⟨a4, a5, b4, b5, k2⟩ := hF3.r2.cells; obtain ⟨a6, a7, a8, a9, b6, b7, b8, b9, k3⟩ := hF3.tk.cells; obtain ⟨y0, y1, y2, y3, k4⟩ := hF3.sc.cells; have HF3 := Lib.hid hF3; clear hF3)
      all_goals
        go_wp2
        rw [show ((a : Int) + (n : Int)) = ((a + n : Nat) : Int) by omega]
        have hT := HF3.out.outN 2 T x a s (a + n)
        change bodyPost _ _ _ _ _ (outW w w3 2 T x a s (a + n))
        generalize outW w w3 2 T x a s (a + n) = W at hT ⊢
        obtain ⟨e0, e1, e2, e3, _⟩ := hT.r1.cells
        obtain ⟨e4, e5, _⟩ := hT.r2.cells
        exact bodyPost_ret (v := .tuple #[tkV 2 T x a, scV s ((a + n : Nat) : Int), .int .i64 0]) (by simp [results, Tryd.results10, go_sem, e0, e1, e2, e3, e4, e5]) rfl ⟨rfl, hT.bl⟩
end Go.Proofs.YtjanpaallealgaaDoor.lex
