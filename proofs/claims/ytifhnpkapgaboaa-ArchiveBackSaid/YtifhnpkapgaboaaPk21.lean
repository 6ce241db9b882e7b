/-
  Proved: what the program's Encode and its reader's small functions do. Conditions: as each theorem says.
-/
import Derived.Test.YtifhnpkapgaboaaPk20
import Derived.Test.YtifhnpkapgaboaaPk11
namespace Go.Proofs.Ytifhnpkapgaboaa.arch
open Go.RowKit
open heap
open path (sv str_size cleanB cleanR belowB)
set_option linter.unusedVariables false
set_option linter.unusedSimpArgs false
set_option maxRecDepth 100000

set_option maxHeartbeats 1000000 in
theorem Encode_any (es : List Ent) (b o c : Nat) (w : World) (h : EAt w b o es) (hc : es.length ≤ c) (hcm : c ≤ 9223372036854775807) (hp : ∀ x ∈ es, small x) :
    Calls Try.prog 9 #[layV b o es.length c] w fun r w' => r = .returned (.tuple #[sv (encL es).1, .int .i64 (encL es).2.1, .int .i64 (encL es).2.2]) ∧ Below w.heap.size w w' := by
  have HB : Hid (Below w.heap.size w (w.alloc (.cells #[.slice (some ⟨b, o, none⟩) es.length c] 24 (0, 0)))) := (Below.refl _ _).alloc (Nat.le_refl _) _
  have HBX := Lib.hid (blk_new w (.cells #[.slice (some ⟨b, o, none⟩) es.length c] 24 (0, 0)))
  have HFM := Lib.hid (fun W (hW : Below w.heap.size w W) => May_any es b o c W (h.below hW) hc hcm hp)
  have HST := Lib.hid (fun W (hW : Below w.heap.size w W) hf => Laid_any es b o c W (h.below hW) hc hcm hf)
  clear h hc hcm hp
  go_enter Try.func9, Try.ntmps9
  go_wp2_with fail
  refine (HFM.out _ HB.out).mono ?_; rintro r w1 ⟨rfl, hb⟩
  have hbx := blk_below HBX.out hb
  have q0 := blk_cell hbx 0
  have ql := blk_lt hbx
  simp only [List.getElem?_toArray, List.getElem?_cons_zero] at q0
  have HB1 : Hid (Below w.heap.size w w1) := HB.out.trans (hb.mono HB.out.size)
  clear hb HBX HFM HB hbx
  by_cases hf : (formL es).2 = 0
  · have HF := Lib.hid hf
    have HE : Hid (encL es = if 65536 < (streamL es).length then ([], 0, 1311) else (streamL es, 0, 0)) := by unfold Hid encL; rw [if_neg (by simp [hf])]
    rw [hf]
    clear hf
    go_wp2_with fail
    refine (HST.out _ HB1.out HF.out).mono ?_; rintro r w2 ⟨rfl, hb⟩
    have HB2 : Hid (Below w.heap.size w w2) := HB1.out.trans (hb.mono HB1.out.size)
    have zs := str_size (streamL es)
    clear hb q0 ql
    by_cases hl : 65536 < (streamL es).length
    · rw [if_pos hl] at HE
      have d1 : decide (65536 < ((streamL es).length : Int)) = true := decide_eq_true (by omega)
      clear hl
      go_wp2_with fail
      go_ret3
      exact ⟨by rw [HE.out]; rfl, HB2.out⟩
    · rw [if_neg hl] at HE
      have d1 : decide (65536 < ((streamL es).length : Int)) = false := decide_eq_false (by omega)
      clear hl
      go_wp2_with fail
      go_ret3
      exact ⟨by rw [HE.out]; rfl, HB2.out⟩
  · have hfb : ((formL es).2 != 0) = true := by simp [bne, hf]
    have HE : Hid (encL es = ([], formL es)) := by unfold Hid encL; rw [if_pos hf]
    clear hf
    go_wp2_with fail
    go_ret3
    exact ⟨by rw [HE.out]; rfl, HB1.out⟩
abbrev wrongV (a : Nat) (c : Int) : Value := .iface 103 (.agg #[.int .i64 a, .int .i64 c])
theorem fail_no (a c : Int) (w : World) : Calls Try.prog 33 #[.bool false, .int .i64 a, .int .i64 c] w fun e w' => e = .returned (.tuple #[]) ∧ w = w' := by
  go_enter Try.func33, Try.ntmps33
  go_wp2_with fail
  go_end0
  exact ⟨rfl, rfl⟩
theorem fail_yes (a : Nat) (c : Int) (w : World) : Calls Try.prog 33 #[.bool true, .int .i64 a, .int .i64 c] w fun e w' => e = .panicked [{ v := wrongV a c, recovered := false }] ∧ w = w' := by
  go_enter Try.func33, Try.ntmps33
  go_wp2_with fail
  exact ⟨rfl, rfl, rfl⟩
/-- The reader in memory. -/
abbrev RdO (s : Nm) (a : Nat) : Obj := .cells #[.string ⟨s.toArray⟩, .int .i64 a] 67 (0, 0)
abbrev PP (q : Nat) : Value := .pointer (some ⟨q, 0, none⟩)
/-- What a reader's function leaves: it returns, or throws the fault. -/
def RdP {α : Type} (q : Nat) (s : Nm) (val : α → Value) (r : Except Flt (α × Nat)) (w : World) (e : Ending) (w' : World) : Prop := match r with
  | .error p => e = .panicked [{ v := wrongV p.1 p.2, recovered := false }] ∧ Turned [q] w w'
  | .ok (x, a) => e = .returned (val x) ∧ w'.heap[q]? = some (RdO s a) ∧ Turned [q] w w'
def takeD (s : Nm) (a n : Nat) : Except Flt (Nm × Nat) := if s.length < a + n then .error (s.length, 1300) else .ok (sub s a n, a + n)
set_option maxHeartbeats 2000000 in
theorem take_any (q : Nat) (s : Nm) (a n : Nat) (w : World) (h : w.heap[q]? = some (RdO s a)) (ha : a ≤ s.length) (hs : s.length ≤ 10000000) (hn : n ≤ 10000000) :
    Calls Try.prog 58 #[PP q, .int .i64 n] w (RdP q s sv (takeD s a n) w) := by
  have z := str_size s
  have c0 := blk_cell h 0
  have c1 := blk_cell h 1
  have f1 := blk_free h 1
  have hl := blk_lt h
  simp only [List.getElem?_toArray, List.getElem?_cons_zero, List.getElem?_cons_succ] at c0 c1
  have H := Lib.hid h
  have hw1 : IntKind.i64.wrap ((s.length : Int) - (a : Int)) = (s.length : Int) - (a : Int) := IntWalk.i64_in _ (by omega)
  clear h
  by_cases hc : s.length < a + n
  · have HT : Hid (takeD s a n = .error (s.length, 1300)) := by unfold Hid takeD; rw [if_pos hc]
    have d1 : decide ((s.length : Int) - (a : Int) < (n : Int)) = true := decide_eq_true (by omega)
    rw [HT.out]
    go_enter Try.func58, Try.ntmps58
    go_wp2_with fail
    go_still_tail 17, (by kernel_rfl)
    change wpList _ _ _ _ _ w.drew
    go_wp2_with fail
    refine (fail_yes s.length 1300 _).mono ?_; rintro e w' ⟨rfl, rfl⟩
    exact ⟨rfl, rfl, (Turned.refl _ _).drew⟩
  · have HT : Hid (takeD s a n = .ok (sub s a n, a + n)) := by unfold Hid takeD; rw [if_neg hc]
    have d1 : decide ((s.length : Int) - (a : Int) < (n : Int)) = false := decide_eq_false (by omega)
    rw [HT.out]
    have hw2 : IntKind.i64.wrap ((a : Int) + (n : Int)) = (a : Int) + (n : Int) := IntWalk.i64_in _ (by omega)
    have hw3 : IntKind.i64.wrap (a : Int) = (a : Int) := IntWalk.i64_in _ (by omega)
    go_enter Try.func58, Try.ntmps58
    go_wp2_with fail
    go_still_tail 17, (by kernel_rfl)
    change wpList _ _ _ _ _ w.drew
    go_wp2_with fail
    refine (fail_no s.length 1300 _).mono ?_; rintro e w' ⟨rfl, rfl⟩
    go_upto_region 3 with fail
    change Code.wp _ _ _ _ (w.drew.setCell ⟨q, 1, none⟩ (.int .i64 ((a : Int) + (n : Int))))
    have hb : (w.drew.setCell ⟨q, 1, none⟩ (.int .i64 ((a : Int) + (n : Int)))).heap[q]? = some (RdO s (a + n)) := by
      have := blk_set (w := w.drew) H.out 1 (.int .i64 ((a : Int) + (n : Int)))
      rw [this]; rfl
    have HT2 : Hid (Turned [q] w (w.drew.setCell ⟨q, 1, none⟩ (.int .i64 ((a : Int) + (n : Int))))) := (Turned.refl _ _).drew.setCell (by simp) _
    generalize (w.drew.setCell ⟨q, 1, none⟩ (.int .i64 ((a : Int) + (n : Int)))) = w2 at *
    have HQ := Lib.hid hb
    clear c0 c1 f1 hl d1
    have c0 := blk_cell hb 0
    have c1 := blk_cell hb 1
    simp only [List.getElem?_toArray, List.getElem?_cons_zero, List.getElem?_cons_succ] at c0 c1
    clear hb
    have hex : (⟨s.toArray⟩ : ByteArray).extract a (a + n) = ⟨(sub s a n).toArray⟩ := by rw [path.cut_str, Nat.add_sub_cancel_left]; rfl
    have hi1 : (a : Int) ≤ (a : Int) + (n : Int) := by omega
    have hi2 : (a : Int) + (n : Int) ≤ (s.length : Int) := by omega
    have hi3 : a ≤ a + n := by omega
    have hi4 : a + n ≤ s.length := by omega
    have hi5 : (0 : Int) ≤ (a : Int) + (n : Int) := by omega
    have hi6 : ((a : Int) + (n : Int)).toNat = a + n := by omega
    go_quiet (fail)
    go_wp2_with fail
    go_ret
    exact ⟨rfl, blk_below HQ.out (below_drewN (Below.refl _ _) _), HT2.out.trans (Turned.of_below (below_drewN (Below.refl _ _) _))⟩
end Go.Proofs.Ytifhnpkapgaboaa.arch
