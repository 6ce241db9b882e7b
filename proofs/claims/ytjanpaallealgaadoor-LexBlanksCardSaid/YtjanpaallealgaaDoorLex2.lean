/-
  Proved: what rest, on and blanks of a scanner return. Conditions: as each theorem says.
-/
import Derived.Test.YtjanpaallealgaaDoorLex1
import Derived.Test.YtjanpaallealgaaDoorHeap
import Derived.Test.YtjanpaallealgaaDoorShelf
namespace Go.Proofs.YtjanpaallealgaaDoor.lex
open Go.RowKit
open flt (isD)
open heap
open num (list_len drop_cons ret_str)
set_option linter.unusedVariables false
set_option maxRecDepth 100000

abbrev scV (s : ByteArray) (a : Int) : Value := .agg #[.string s, .int .i64 a]
theorem rest_any (s : ByteArray) (a : Nat) (w : World) (ha : a ≤ s.size) (hs : s.size ≤ 1000000000000000001) :
    Calls Tryd.prog 12 #[scV s a] w fun e w' => e = .returned (.string (s.extract a s.size)) ∧ Below w.heap.size w w' := by
  go_enter Tryd.func12, Tryd.ntmps12
  go_wp2_with fail
  go_ret
  exact ⟨rfl, (Below.refl _ _).alloc (Nat.le_refl _) _⟩
theorem on_any (s : ByteArray) (a n : Nat) (w : World) (ha : a + n ≤ 2000000000000000001) :
    Calls Tryd.prog 16 #[scV s a, .int .i64 n] w fun e w' => e = .returned (scV s ((a + n : Nat) : Int)) ∧ Below w.heap.size w w' := by
  go_enter Tryd.func16, Tryd.ntmps16
  go_wp2_with fail
  refine bodyPost_ret (v := scV s ((a + n : Nat) : Int)) (by simp [results, Tryd.results16, go_sem]) rfl ⟨rfl, ?_⟩
  exact ((Below.refl _ _).alloc (Nat.le_refl _) _).alloc (by simp) _
theorem skp_run (t : List UInt8) : skp false t = runB blankB t + skp false (t.drop (runB blankB t)) := by
  induction t with
  | nil => rfl
  | cons c r ih =>
    cases h : blankB c
    · rw [runB_no h]; simp
    · rw [runB_yes h, skp, if_pos h, List.drop_succ_cons]; omega
theorem skp_line (r : List UInt8) : skp true r = runB lineB r + skp false (r.drop (runB lineB r)) := by
  induction r with
  | nil => rfl
  | cons c r ih =>
    by_cases h : c = 10
    · subst h
      rw [runB_no (by decide), skp, if_pos rfl]
      simp [skp, show blankB 10 = true by decide]
    · rw [runB_yes (by unfold lineB; simp [h]), skp, if_neg h, List.drop_succ_cons]; omega
theorem skp_hash (r : List UInt8) : skp false (35 :: r) = runB lineB (35 :: r) + skp false ((35 :: r).drop (runB lineB (35 :: r))) := by
  rw [runB_yes (by decide), List.drop_succ_cons, skp, if_neg (by decide), if_pos rfl, skp_line]; omega
theorem skp_zero {t : List UInt8} (h1 : runB blankB t = 0) (h2 : Lib.hasPrefix t [35] = false) : skp false t = 0 := by
  cases t with
  | nil => rfl
  | cons c r =>
    have hb : blankB c = false := by
      cases h : blankB c with
      | false => rfl
      | true => rw [runB_yes h] at h1; omega
    have hc : c ≠ 35 := by
      intro e; subst e
      simp [Lib.hasPrefix, List.isPrefixOf] at h2
    rw [skp, if_neg (by rw [hb]; exact Bool.false_ne_true), if_neg hc]
theorem skp_pre {t : List UInt8} (h : Lib.hasPrefix t [35] = true) : skp false t = runB lineB t + skp false (t.drop (runB lineB t)) ∧ 1 ≤ runB lineB t := by
  cases t with
  | nil => exact absurd h (by decide)
  | cons c r =>
    have hc : c = 35 := by
      unfold Lib.hasPrefix at h
      rw [List.isPrefixOf] at h
      have := (Bool.and_eq_true_iff.1 h).1
      exact (beq_iff_eq.1 this).symm
    subst hc
    exact ⟨skp_hash r, by rw [runB_yes (by decide)]; omega⟩
theorem ext_list (s : ByteArray) (a : Nat) : (s.extract a s.size).data.toList = s.data.toList.drop a := by
  rw [ByteArray.data_extract, Array.toList_extract, List.extract_eq_take_drop]
  rw [List.take_of_length_le]
  rw [List.length_drop, Array.length_toList]
  exact Nat.le_refl _
theorem ext_size (s : ByteArray) (a : Nat) (h : a ≤ s.size) : (s.extract a s.size).size = s.size - a := by
  rw [ByteArray.size_extract]; omega
theorem ext_ext (s : ByteArray) (a n : Nat) (h : a + n ≤ s.size) : (s.extract a s.size).extract n (s.size - a) = s.extract (a + n) s.size := by
  apply ByteArray.ext
  apply Array.toList_inj.1
  have e1 := ext_list (s.extract a s.size) n
  rw [ext_size s a (by omega)] at e1
  rw [e1, ext_list, ext_list, List.drop_drop]
def cellN (v : Option Value) : Nat := match v with
  | some (.int _ n) => n.toNat
  | _ => 0
/-- The scanner's block. -/
def ScAt (w : World) (b : Nat) (s : ByteArray) (k : Nat) : Prop := w.heap[b]? = some (.cells #[.string s, .int .i64 k] 37 (0, 0))
theorem ScAt.cells {w : World} {b k : Nat} {s : ByteArray} (h : ScAt w b s k) : w.cell? ⟨b, 0, none⟩ = some (.string s) ∧ w.cell? ⟨b, 1, none⟩ = some (.int .i64 k) ∧ w.frozen? ⟨b, 0, none⟩ = false ∧ w.frozen? ⟨b, 1, none⟩ = false ∧ b < w.heap.size :=
  ⟨by rw [blk_cell h]; rfl, by rw [blk_cell h]; rfl, blk_free h 0, blk_free h 1, blk_lt h⟩
theorem ScAt.set2 {w : World} {b k0 : Nat} {s0 : ByteArray} (h : ScAt w b s0 k0) (s : ByteArray) (k : Nat) : ScAt ((w.setCell ⟨b, 0, none⟩ (.string s)).setCell ⟨b, 1, none⟩ (.int .i64 k)) b s k := blk_set (blk_set h 0 (.string s)) 1 (.int .i64 k)
theorem ScAt.other {w : World} {b c k : Nat} {s : ByteArray} (h : ScAt w b s k) (hn : b ≠ c) (u v : Value) : ScAt ((w.setCell ⟨c, 0, none⟩ u).setCell ⟨c, 1, none⟩ v) b s k := by
  unfold ScAt; rw [blk_other hn, blk_other hn]; exact h
theorem ScAt.below {w w' : World} {b k : Nat} {s : ByteArray} (h : ScAt w b s k) (hb : Below w.heap.size w w') : ScAt w' b s k := blk_below h hb
def BlAt (w : World) (s : ByteArray) (a : Nat) (wr : World) (k : Nat) : Prop :=
  ScAt wr w.heap.size s k ∧ ScAt wr (w.heap.size + 1) ⟨#[]⟩ 0 ∧ k ≤ s.size ∧ a + skp false (s.data.toList.drop a) = k + skp false (s.data.toList.drop k) ∧ Below w.heap.size w wr
set_option maxHeartbeats 1000000 in
theorem blanks_any (s : ByteArray) (a : Nat) (w : World) (ha : a ≤ s.size) (hs : s.size ≤ 1000000000000000001) :
    Calls Tryd.prog 9 #[scV s a] w fun e w' => e = .returned (scV s ((a + skp false (s.data.toList.drop a) : Nat) : Int)) ∧ Below w.heap.size w w' := by
  have H0 : Hid (BlAt w s a ((w.alloc (.cells #[.string s, .int .i64 a] 37)).alloc (.cells #[.string ⟨#[]⟩, .int .i64 0] 37)) a) := by
    refine ⟨blk_old (blk_new _ _) _, ?_, ha, rfl, ((Below.refl _ _).alloc (Nat.le_refl _) _).alloc (by simp) _⟩
    have := blk_new (w.alloc (.cells #[.string s, .int .i64 a] 37)) (.cells #[.string ⟨#[]⟩, .int .i64 0] 37)
    simpa [ScAt] using this
  go_enter Tryd.func9, Tryd.ntmps9
  go_wp2_with fail
  go_loopw [3] (fun _ wr => ∃ k, BlAt w s a wr k) (fun _ wr => s.size - cellN (wr.cell? ⟨w.heap.size, 1, none⟩))
  case atStart => exact ⟨a, H0.out⟩
  case round =>
    obtain ⟨k, hsc, hrs, hk, heq, hbl⟩ := hrel
    generalize hB : w.heap.size = B at *
    obtain ⟨c0, c1, f0, f1, hlt⟩ := hsc.cells
    have HSC := Lib.hid hsc
    have HRS := Lib.hid hrs
    have HEQ := Lib.hid heq
    have HBL := Lib.hid hbl
    have HB := Lib.hid hB
    clear hsc hrs heq hbl hB
    have hsz := ext_size s k hk
    have hls := ext_list s k
    have hlen : (s.data.toList.drop k).length = s.size - k := by rw [List.length_drop, list_len]
    have HR1 : Hid (∀ W, Calls Tryd.prog 11 #[.string (s.extract k s.size), .func (.func 13) #[] #[]] W fun e w' => e = .returned (.int .i64 (runB blankB (s.data.toList.drop k))) ∧ W = w') := fun W => by
      have := run_blank (s.extract k s.size) W (by omega)
      rw [hls] at this; exact this
    have hn := runB_le blankB (s.data.toList.drop k)
    rw [hlen] at hn
    have HSK := Lib.hid (skp_run (s.data.toList.drop k))
    have HZ := Lib.hid (fun h => @skp_zero (s.data.toList.drop k) h)
    rw [List.drop_drop] at HSK
    generalize hnn : runB blankB (s.data.toList.drop k) = n at *
    have HNN := Lib.hid hnn
    clear hnn
    have hex := ext_ext s k n (by omega)
    have hHP : ∀ W, Calls Tryd.prog 14 #[.string (s.extract (k + n) s.size), .string ⟨#[35]⟩] W fun e w' => e = .returned (.bool (Lib.hasPrefix (s.data.toList.drop (k + n)) [35])) ∧ W = w' := fun W => by
      have := Tryd.strings_HasPrefix (s.extract (k + n) s.size) ⟨#[35]⟩ W
      rw [show (s.extract (k + n) s.size).data.toList = s.data.toList.drop (k + n) from ext_list s (k + n)] at this
      exact this.mono fun e w' h => ⟨h.1, h.2.symm⟩
    have HHP := Lib.hid hHP
    clear hHP
    have hkn : k + n ≤ s.size := by omega
    have HR2 : Hid (∀ W, Calls Tryd.prog 11 #[.string (s.extract (k + n) s.size), .func (.func 15) #[] #[]] W fun e w' => e = .returned (.int .i64 (runB lineB (s.data.toList.drop (k + n)))) ∧ W = w') := fun W => by
      have := run_line (s.extract (k + n) s.size) W (by rw [ext_size s (k + n) hkn]; omega)
      rw [ext_list s (k + n)] at this; exact this
    have hlen2 : (s.data.toList.drop (k + n)).length = s.size - (k + n) := by rw [List.length_drop, list_len]
    have hm := runB_le lineB (s.data.toList.drop (k + n))
    rw [hlen2] at hm
    have hhash := fun h => @skp_pre (s.data.toList.drop (k + n)) h
    rw [List.drop_drop] at hhash
    have HHS := Lib.hid hhash
    clear hhash hls hlen hlen2
    generalize runB lineB (s.data.toList.drop (k + n)) = m at *
    go_wp2_with fail
    (with_reducible refine (rest_any _ _ _ hk hs).mono ?_); rintro e w1 ⟨rfl, hb1⟩
    have HSC1 := Lib.hid (HSC.out.below hb1)
    have HRS1 := Lib.hid (HRS.out.below hb1)
    have HBL1 := Lib.hid (HBL.out.trans (hb1.mono (Nat.le_of_lt hlt)))
    clear hb1 c0 c1 f0 f1 hlt
    obtain ⟨c0, c1, f0, f1, hlt⟩ := HSC1.out.cells
    go_wp2_with (go_at_call 11; refine (HR1.out _).mono ?_; rintro e w' ⟨rfl, rfl⟩)
    (with_reducible refine (rest_any _ _ _ hk hs).mono ?_); rintro e w2 ⟨rfl, hb2⟩
    have HSC2 := Lib.hid (HSC1.out.below hb2)
    have HRS2 := Lib.hid (HRS1.out.below hb2)
    have HBL2 := Lib.hid (HBL1.out.trans (hb2.mono (Nat.le_of_lt hlt)))
    clear hb2 c0 c1 f0 f1 hlt
    obtain ⟨c0, c1, f0, f1, hlt⟩ := HSC2.out.cells
    cases hh : Lib.hasPrefix (s.data.toList.drop (k + n)) [35]
    · rw [hh] at HHP
      clear HHS HR2
      by_cases h0 : n = 0
      · have h00 : ((n : Int) == 0) = true := beq_iff_eq.2 (by omega)
        have HE : Hid (a + skp false (s.data.toList.drop a) = k) := by
          unfold Hid
          rw [HEQ.out, HZ.out h0 (by have := hh; rw [h0, Nat.add_zero] at this; exact this)]; rfl
        obtain ⟨d0, d1, g0, g1, hlt2⟩ := HRS2.out.cells
        clear hh h0
        go_wp2_with (go_at_call 14; refine (HHP.out _).mono ?_; rintro e w' ⟨rfl, rfl⟩)
        have hres := HRS2.out.set2 s k
        obtain ⟨e0, e1, _⟩ := hres.cells
        refine bodyPost_ret (v := scV s (k : Int)) (by simp [results, Tryd.results9, go_sem, e0, e1]) rfl ⟨by rw [HE.out], ?_⟩
        rw [HB.out]
        exact (HBL2.out.setCell (by simp) _).setCell (by simp) _
      · have h00 : ((n : Int) == 0) = false := beq_eq_false_iff_ne.2 (by omega)
        have hn1 : 1 ≤ n := by omega
        clear hh h0
        go_wp2_with (go_at_call 14; refine (HHP.out _).mono ?_; rintro e w' ⟨rfl, rfl⟩)
        (with_reducible refine (on_any _ _ _ _ (by omega)).mono ?_); rintro e w3 ⟨rfl, hb3⟩
        have HSC3 := Lib.hid (HSC2.out.below hb3)
        have HRS3 := Lib.hid (HRS2.out.below hb3)
        have HBL3 := Lib.hid (HBL2.out.trans (hb3.mono (Nat.le_of_lt hlt)))
        clear hb3 c0 c1 f0 f1 hlt
        obtain ⟨c0, c1, f0, f1, hlt⟩ := HSC3.out.cells
        have HN : Hid (BlAt w s a ((w3.setCell ⟨B, 0, none⟩ (.string s)).setCell ⟨B, 1, none⟩ (.int .i64 ((k + n : Nat) : Int))) (k + n)) := by
          unfold BlAt Hid
          rw [HB.out]
          refine ⟨HSC3.out.set2 s (k + n), HRS3.out.other (by omega) _ _, hkn, ?_, (HBL3.out.setCell (by simp) _).setCell (by simp) _⟩
          rw [HEQ.out, HSK.out]; omega
        have HME : Hid (s.size - cellN (((w3.setCell ⟨B, 0, none⟩ (.string s)).setCell ⟨B, 1, none⟩ (.int .i64 ((k + n : Nat) : Int))).cell? ⟨B, 1, none⟩) < s.size - cellN (wr.cell? ⟨B, 1, none⟩)) := by
          unfold Hid
          have e1 := (HSC3.out.set2 s (k + n)).cells.2.1
          rw [e1, HSC.out.cells.2.1]
          show s.size - (k + n) < s.size - k
          omega
        go_wp2_with fail
        go_roundw
        case rel => exact ⟨k + n, HN.out⟩
        case measure => exact HME.out
    · rw [hh] at HHP
      obtain ⟨hs1, hs2⟩ := HHS.out hh
      have HS1 := Lib.hid hs1
      clear HHS hh hs1
      go_wp2_with (go_at_call 14; refine (HHP.out _).mono ?_; rintro e w' ⟨rfl, rfl⟩)
      (with_reducible refine (rest_any _ _ _ hk hs).mono ?_); rintro e w3 ⟨rfl, hb3⟩
      have HSC3 := Lib.hid (HSC2.out.below hb3)
      have HRS3 := Lib.hid (HRS2.out.below hb3)
      have HBL3 := Lib.hid (HBL2.out.trans (hb3.mono (Nat.le_of_lt hlt)))
      clear hb3 c0 c1 f0 f1 hlt
      obtain ⟨c0, c1, f0, f1, hlt⟩ := HSC3.out.cells
      have h00 : ((n : Int) + (m : Int) == 0) = false := beq_eq_false_iff_ne.2 (by omega)
      go_wp2_with (go_at_call 11; refine (HR2.out _).mono ?_; rintro e w' ⟨rfl, rfl⟩)
      have hon := fun W => on_any s k (n + m) W (by omega)
      have e5 : (((n + m : Nat) : Int)) = (n : Int) + m := by omega
      rw [e5] at hon
      refine (hon _).mono ?_; rintro e w4 ⟨rfl, hb4⟩
      have HSC4 := Lib.hid (HSC3.out.below hb4)
      have HRS4 := Lib.hid (HRS3.out.below hb4)
      have HBL4 := Lib.hid (HBL3.out.trans (hb4.mono (Nat.le_of_lt hlt)))
      clear hb4 c0 c1 f0 f1 hlt hon e5
      obtain ⟨c0, c1, f0, f1, hlt⟩ := HSC4.out.cells
      have HN : Hid (BlAt w s a ((w4.setCell ⟨B, 0, none⟩ (.string s)).setCell ⟨B, 1, none⟩ (.int .i64 ((k + (n + m) : Nat) : Int))) (k + (n + m))) := by
        unfold BlAt Hid
        rw [HB.out]
        refine ⟨HSC4.out.set2 s (k + (n + m)), HRS4.out.other (by omega) _ _, by omega, ?_, (HBL4.out.setCell (by simp) _).setCell (by simp) _⟩
        rw [HEQ.out, HSK.out, HS1.out, Nat.add_assoc k n m]; omega
      have HME : Hid (s.size - cellN (((w4.setCell ⟨B, 0, none⟩ (.string s)).setCell ⟨B, 1, none⟩ (.int .i64 ((k + (n + m) : Nat) : Int))).cell? ⟨B, 1, none⟩) < s.size - cellN (wr.cell? ⟨B, 1, none⟩)) := by
        unfold Hid
        have e1 := (HSC4.out.set2 s (k + (n + m))).cells.2.1
        rw [e1, HSC.out.cells.2.1]
        show s.size - (k + (n + m)) < s.size - k
        omega
      go_wp2_with fail
      go_roundw
      case rel => exact ⟨k + (n + m), HN.out⟩
      case measure => exact HME.out
end Go.Proofs.YtjanpaallealgaaDoor.lex
