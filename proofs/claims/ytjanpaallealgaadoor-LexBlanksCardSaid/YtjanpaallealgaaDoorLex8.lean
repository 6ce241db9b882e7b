/-
  Proved: the way of a scanner's token at a sign, and at none (written by wip/bin/lex8.py). Conditions: as each theorem says.
-/
import Derived.Test.YtjanpaallealgaaDoorLex5
namespace Go.Proofs.YtjanpaallealgaaDoor.lex
open Go.RowKit
open flt (isD fv ofT ofE OfText_any)
open heap
open num (list_len drop_cons ret_pair bcell)
set_option linter.unusedVariables false
set_option maxRecDepth 100000
attribute [local go_sem] run_store_float

def signsL : List (List UInt8) := [[61, 61], [123], [125], [40], [41], [59], [44], [61], [60], [43], [45], [42], [47], [37], [38], [33]]
def signsT : ByteArray := ⟨#[61, 61, 32, 123, 32, 125, 32, 40, 32, 41, 32, 59, 32, 44, 32, 61, 32, 60, 32, 43, 32, 45, 32, 42, 32, 47, 32, 37, 32, 38, 32, 33]⟩
theorem signs_fields : Lib.fields signsT.data.toList = signsL := by decide +kernel
/-- What token returns at a place where no name, number or string begins. -/
def sigV (s : ByteArray) (a : Nat) (l : List UInt8) : Value := match signsL.find? (fun g => Lib.hasPrefix l g) with
  | some g => .tuple #[tkV 4 ⟨g.toArray⟩ 0 a, scV s ((a + g.length : Nat) : Int), .int .i64 0]
  | none => .tuple #[tkV 0 ⟨#[]⟩ 0 a, scV s a, .int .i64 1800]
theorem find_at {p : List UInt8 → Bool} {l : List (List UInt8)} {j : Nat} {g : List UInt8} (hg : l[j]? = some g) (hj : ∀ i q, i < j → l[i]? = some q → p q = false) (hp : p g = true) : l.find? p = some g := by
  induction l generalizing j with
  | nil => simp at hg
  | cons x r ih =>
    cases j with
    | zero => simp at hg; subst hg; simp [hp]
    | succ j =>
      have h0 := hj 0 x (by omega) rfl
      rw [List.find?_cons, h0]
      exact ih (j := j) (by simpa using hg) (fun i q hi hq => hj (i + 1) q (by omega) (by simpa using hq))
theorem find_no {p : List UInt8 → Bool} {l : List (List UInt8)} (hj : ∀ i q, i < l.length → l[i]? = some q → p q = false) : l.find? p = none := by
  rw [List.find?_eq_none]
  intro q hq
  obtain ⟨i, hi, rfl⟩ := List.getElem_of_mem hq
  rw [hj i _ hi (List.getElem?_eq_getElem hi)]
  exact Bool.false_ne_true
theorem sigs_le (j : Nat) (g : List UInt8) (h : signsL[j]? = some g) : 1 ≤ g.length ∧ g.length ≤ 2 := by
  have h2 : ∀ q ∈ signsL, 1 ≤ q.length ∧ q.length ≤ 2 := by decide
  exact h2 g (List.mem_of_getElem? h)
/-- The row of the signs. -/
def SgAt (w : World) (b : Nat) : Prop := w.heap[b]? = some (.cells (signsL.map fun l => Value.string ⟨l.toArray⟩).toArray 9 (0, 0))
theorem SgAt.cell {w : World} {b j : Nat} {g : List UInt8} (h : SgAt w b) (hg : signsL[j]? = some g) : w.cell? ⟨b, j, none⟩ = some (.string ⟨g.toArray⟩) := by
  rw [blk_cell h, List.getElem?_toArray, List.getElem?_map, hg]; rfl
set_option maxHeartbeats 4000000 in
theorem tk_sign (s R : ByteArray) (a : Nat) (w : World) (hz : R.size ≤ 1000000000) (ha : a + R.size ≤ 2000000000) (h0 : 0 < R.size) (hE : R.toList.isEmpty = false) (HR : Hid (∀ W, Calls Tryd.prog 12 #[scV s a] W fun e w' => e = .returned (.string R) ∧ Below W.heap.size W w'))
    (HL : Hid (∀ W, Calls Tryd.prog 17 #[.int .u8 (R[0].toNat : Int)] W fun e w' => e = .returned (.bool false) ∧ W = w')) (HD : Hid (∀ W, Calls Tryd.prog 19 #[.int .u8 (R[0].toNat : Int)] W fun e w' => e = .returned (.bool false) ∧ W = w')) (hq : ((R[0].toNat : Int) == 34) = false) (HFi : Hid (∀ W, Below w.heap.size w W → Calls Tryd.prog 22 #[.string signsT] W fun e w' => e = .returned (.slice (some ⟨W.heap.size, 0, none⟩) 16 16) ∧ SgAt w' W.heap.size ∧ Below W.heap.size W w')) :
    Calls Tryd.prog 10 #[scV s a] w fun e w' => e = .returned (sigV s a R.data.toList) ∧ Below w.heap.size w w' := by
  have HF := Lib.hid (TF.start w s a)
  go_enter Tryd.func10, Tryd.ntmps10
  go_wp2_with fail
  refine (HR.out (w4 w s a)).mono ?_
  rintro e w1 ⟨rfl, hb1⟩
  have HF1 := Lib.hid (HF.out.below hb1)
  clear hb1 HF
  obtain ⟨c0, c1, f0, f1, hl0⟩ := HF1.out.sc.cells
  obtain ⟨d0, d1, d2, d3, g0, g1, g2, g3, hl1⟩ := HF1.out.r1.cells
  obtain ⟨p0, p1, q0, q1, hl2⟩ := HF1.out.r2.cells
  obtain ⟨m0, m1, m2, m3, n0, n1, n2, n3, hl3⟩ := HF1.out.tk.cells
  go_wp2_with (first | (go_at_call 17; refine (HL.out _).mono ?_; rintro e w' ⟨rfl, rfl⟩) | (go_at_call 19; refine (HD.out _).mono ?_; rintro e w' ⟨rfl, rfl⟩))
  have HBW := Lib.hid HF1.out.bl
  refine (HFi.out w1 HBW.out).mono ?_; rintro e w2 ⟨rfl, hsg, hb2⟩
  have HF2 := Lib.hid (HF1.out.below hb2)
  have HSG := Lib.hid hsg
  generalize hB2 : w1.heap.size = B2 at *
  clear hB2 hb2 hsg HFi HBW HF1 c0 c1 f0 f1 hl0 d0 d1 d2 d3 g0 g1 g2 g3 hl1 p0 p1 q0 q1 hl2 m0 m1 m2 m3 n0 n1 n2 n3 hl3
  obtain ⟨c0, c1, f0, f1, hl0⟩ := HF2.out.sc.cells
  obtain ⟨d0, d1, d2, d3, g0, g1, g2, g3, hl1⟩ := HF2.out.r1.cells
  obtain ⟨p0, p1, q0, q1, hl2⟩ := HF2.out.r2.cells
  obtain ⟨m0, m1, m2, m3, n0, n1, n2, n3, hl3⟩ := HF2.out.tk.cells
  go_wp2_with fail
  go_loopw [14, 138] (fun _ i wr => ∃ j : Nat, j ≤ 16 ∧ i = .int .i64 j ∧ Hid (w2 = wr ∧ ∀ k q, k < j → signsL[k]? = some q → Lib.hasPrefix R.data.toList q = false)) (fun _ i _ => 16 - (intOf i).toNat)
  case atStart => exact ⟨0, by omega, rfl, ⟨rfl, fun k q hk _ => absurd hk (Nat.not_lt_zero _)⟩⟩
  case round =>
    obtain ⟨j, hj, rfl, hr⟩ := hrel
    obtain ⟨rfl, hno⟩ := hr.out
    have HNO := Lib.hid hno
    clear hr hno
    by_cases hlt : j < 16
    · obtain ⟨g, hg⟩ : ∃ g, signsL[j]? = some g := ⟨_, List.getElem?_eq_getElem (by exact hlt)⟩
      obtain ⟨hgl, hgl2⟩ := sigs_le j g hg
      have kc := HSG.out.cell hg
      have HG := Lib.hid hg
      have HH : Hid (∀ W, Calls Tryd.prog 14 #[.string R, .string ⟨g.toArray⟩] W fun e w' => e = .returned (.bool (Lib.hasPrefix R.data.toList g)) ∧ W = w') := fun W => by
        have := Tryd.strings_HasPrefix R ⟨g.toArray⟩ W
        exact this.mono fun e w' h => ⟨h.1, h.2.symm⟩
      have hgs : (⟨g.toArray⟩ : ByteArray).size = g.length := flt.str_size g
      clear hg
      cases hh : Lib.hasPrefix R.data.toList g
      · rw [hh] at HH
        go_wp2_with (go_at_call 14; refine (HH.out _).mono ?_; rintro e w' ⟨rfl, rfl⟩)
        go_roundw
        case rel => exact ⟨j + 1, by omega, by go_num, ⟨by first | rfl | trivial, fun k q hk hq => by
          rcases Nat.lt_succ_iff_lt_or_eq.1 hk with h | rfl
          · exact HNO.out k q h hq
          · rw [HG.out] at hq; cases hq; exact hh⟩⟩
        case measure => simp [intOf]; omega
      · rw [hh] at HH
        have HV : Hid (sigV s a R.data.toList = .tuple #[tkV 4 ⟨g.toArray⟩ 0 a, scV s ((a + g.length : Nat) : Int), .int .i64 0]) := by
          unfold Hid sigV
          rw [find_at HG.out (fun i q hi hq => HNO.out i q hi hq) hh]
        have HO := Lib.hid (fun W => on_any s a g.length W (by omega))
        clear hh HNO HG
        go_wp2_with (go_at_call 14; refine (HH.out _).mono ?_; rintro e w' ⟨rfl, rfl⟩)
        have HF1 := Lib.hid (HF2.out.put2 4 ⟨g.toArray⟩)
        clear HF2
        have hF2 := HF1.out
        generalize (w2.setCell ⟨w.heap.size + 1 + 1 + 1, 0, none⟩ (.int .i64 4)).setCell ⟨w.heap.size + 1 + 1 + 1, 1, none⟩ (.string ⟨g.toArray⟩) = w5 at hF2 ⊢
        have HF2 := Lib.hid hF2
        clear hF2 HF1 c0 c1 f0 f1 hl0 d0 d1 d2 d3 g0 g1 g2 g3 hl1 p0 p1 q0 q1 hl2 m0 m1 m2 m3 n0 n1 n2 n3 hl3
        obtain ⟨c0, c1, f0, f1, hl0⟩ := HF2.out.sc.cells
        obtain ⟨d0, d1, d2, d3, g0, g1, g2, g3, hl1⟩ := HF2.out.r1.cells
        obtain ⟨p0, p1, q0, q1, hl2⟩ := HF2.out.r2.cells
        obtain ⟨m0, m1, m2, m3, n0, n1, n2, n3, hl3⟩ := HF2.out.tk.cells
        go_region_with (go_at_call 16; refine (HO.out _).mono ?_; rintro e w3 ⟨rfl, hb3⟩; have hF3 : TF w s a 4 ⟨g.toArray⟩ 0 w3 := (by first | exact HF2.out.below hb3 | exact HF2.out.drew'.below hb3); clear hb3; obtain ⟨a0, a1, a2, a3, b0, b1, b2, b3, k1⟩ := hF3.r1.cells; obtain ⟨a4, a5, b4, b5, k2⟩ := hF3.r2.cells; obtain ⟨a6, a7, a8, a9, b6, b7, b8, b9, k3⟩ := hF3.tk.cells; obtain ⟨y0, y1, y2, y3, k4⟩ := hF3.sc.cells; have HF3 := Lib.hid hF3; clear hF3)
        all_goals
          go_wp2
          rw [show ((a : Int) + (g.length : Int)) = ((a + g.length : Nat) : Int) by omega]
          have hT := HF3.out.outN 4 ⟨g.toArray⟩ 0 a s (a + g.length)
          change bodyPost _ _ _ _ _ (outW w w3 4 ⟨g.toArray⟩ 0 a s (a + g.length))
          generalize outW w w3 4 ⟨g.toArray⟩ 0 a s (a + g.length) = W at hT ⊢
          obtain ⟨e0, e1, e2, e3, _⟩ := hT.r1.cells
          obtain ⟨e4, e5, _⟩ := hT.r2.cells
          exact bodyPost_ret (v := .tuple #[tkV 4 ⟨g.toArray⟩ 0 a, scV s ((a + g.length : Nat) : Int), .int .i64 0]) (by simp [results, Tryd.results10, go_sem, e0, e1, e2, e3, e4, e5]) rfl ⟨by rw [HV.out], hT.bl⟩
    · have HV : Hid (sigV s a R.data.toList = .tuple #[tkV 0 ⟨#[]⟩ 0 a, scV s a, .int .i64 1800]) := by
        unfold Hid sigV
        rw [find_no (fun i q hi hq => HNO.out i q (by have : signsL.length = 16 := rfl
                                                      omega) hq)]
      clear HNO
      go_wp2_with fail
      go_region
      all_goals
        go_wp2
        have hT := HF2.out.out 0 ⟨#[]⟩ 0 a s a
        obtain ⟨e0, e1, e2, e3, _⟩ := hT.r1.cells
        obtain ⟨e4, e5, _⟩ := hT.r2.cells
        exact bodyPost_ret (v := .tuple #[tkV 0 ⟨#[]⟩ 0 a, scV s a, .int .i64 1800]) (by simp [results, Tryd.results10, go_sem, e0, e1, e2, e3, e4, e5]) rfl ⟨by rw [HV.out], hT.bl⟩
end Go.Proofs.YtjanpaallealgaaDoor.lex
