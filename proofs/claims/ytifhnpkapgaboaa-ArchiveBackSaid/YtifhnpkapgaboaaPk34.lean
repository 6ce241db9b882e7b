/-
  Proved: what package archive reads of an image without layers. Conditions: as each theorem says.
-/
import Derived.Test.YtifhnpkapgaboaaPk33
namespace Go.Proofs.Ytifhnpkapgaboaa.arch
open Go.RowKit
open heap
open maps (MapS)
open path (sv str_size)
set_option linter.unusedVariables false
set_option linter.unusedSimpArgs false
set_option maxRecDepth 100000

def mkI : Nm := [79, 82, 73]
def exI : Nm := [79, 82, 73, 0, 120]
def GNil : Unit → World → Nat → Value → Prop := fun _ _ _ v => v = .slice none 0 0
theorem GNil.keeps : Keeps GNil := ⟨fun h => ⟨none, 0, 0, h⟩, fun h _ _ => h, fun h _ => h⟩
theorem decodeI_ex (q : Nat) (w : World) (h : w.heap[q]? = some (RdO exI 0)) : Calls Try.prog 30 #[PP q] w (ImP GNil q exI (.ok ((), 4)) w) := by
  have hl := blk_lt h
  have h1 := blk_old h (.cells #[.slice none 0 0] 37 (0, 0))
  have HM := Lib.hid (mark_any q exI mkI 0 _ h1 (Nat.zero_le _) (by decide) (by decide))
  have e1 : markD exI mkI 0 = .ok ((), 3) := rfl
  rw [e1] at HM
  have HI := Lib.hid (blk_new w (.cells #[.slice none 0 0] 37 (0, 0)))
  have HT : Hid (Turned [q] w (w.alloc (.cells #[.slice none 0 0] 37 (0, 0)))) := (Turned.refl _ _).alloc _
  clear e1 h1 h
  go_enter Try.func30, Try.ntmps30
  go_wp2_with fail
  change Calls _ _ #[_, sv mkI] _ _
  refine HM.out.mono ?_; rintro e w2 ⟨rfl, hq2, ht2⟩
  have HI2 := Lib.hid (ht2.kept HI.out (by simp; omega))
  have HT2 := Lib.hid (HT.out.trans ht2)
  have c1 := blk_cell hq2 1
  have ql := blk_lt hq2
  simp only [List.getElem?_toArray, List.getElem?_cons_zero, List.getElem?_cons_succ] at c1
  have HN := Lib.hid (number_any q exI 3 1 w2 hq2 (by decide) (by decide) (.inl rfl))
  have e2 : numD exI 3 1 = .ok (0, 4) := rfl
  rw [e2] at HN
  clear ht2 HM HI HT e2 hq2
  go_wp2_with fail
  refine HN.out.mono ?_; rintro e w3 ⟨rfl, hq3, ht3⟩
  have HI3 := Lib.hid (ht3.kept HI2.out (by simp; omega))
  have HT3 := Lib.hid (HT2.out.trans ht3)
  have HQ := Lib.hid hq3
  clear ht3 hq3 HN HI2 HT2 c1 ql
  go_wp2_with fail
  refine (fail_no _ _ _).mono ?_; rintro e w' ⟨rfl, rfl⟩
  go_wp2_with fail
  refine (Ground_nil w3).mono ?_; rintro e w4 ⟨rfl, -, -, -, hb⟩
  have HI4 := Lib.hid (blk_below HI3.out hb)
  have HQ4 := Lib.hid (blk_below HQ.out hb)
  have HT4 := Lib.hid (HT3.out.trans (Turned.of_below hb))
  clear hb HI3 HQ HT3
  go_wp2_with fail
  go_loopw [20] (fun v20 wr => wr = w4 ∧ v20 = .int .i64 0) (fun _ _ => 0)
  case atStart => exact ⟨rfl, rfl⟩
  case round =>
    obtain ⟨rfl, rfl⟩ := hrel
    have c2 := blk_cell HI4.out 0
    have f2 := blk_free HI4.out 0
    have l2 := blk_lt HI4.out
    simp only [List.getElem?_toArray, List.getElem?_cons_zero] at c2
    go_wp2_with fail
    have k2 := blk_cell (blk_set HI4.out 0 (.slice none 0 0)) 0
    simp only [List.setIfInBounds_toArray, List.set_cons_zero, List.getElem?_toArray, List.getElem?_cons_zero] at k2
    refine bodyPost_ret (v := .agg #[.slice none 0 0]) (by simp [results, Try.results30, go_sem, k2]) rfl ?_
    exact ⟨_, rfl, rfl, (blk_other (by omega) 0 _).trans HQ4.out, tur_set HT4.out (Nat.le_refl _) _⟩
theorem DecodeImage_ex (w : World) : Calls Try.prog 14 #[sv exI] w fun e w' => e = .returned (.tuple #[.agg #[.slice none 0 0], .int .i64 4, .int .i64 1310]) ∧ Below w.heap.size w w' := by
  have HR := Lib.hid (readI_any GNil GNil.keeps exI (.ok ((), 4)) (w.alloc (.cells #[.slice none 0 0] 37 (0, 0))) (by decide) (fun q W h hl => decodeI_ex q W h))
  have hR : readG exI (.ok ((), 4)) = (.error (4, 1310) : Except Flt Unit) := rfl
  rw [hR] at HR
  clear hR
  have hmf : ∀ (fn : Fn) (first cap : Array Value) (w : World), (Instr.makeFunc fn first cap).run Try.prog w = .ok (.func fn first cap) w := fun _ _ _ _ => rfl
  have HN := Lib.hid (blk_new w (.cells #[.slice none 0 0] 37 (0, 0)))
  have HB : Hid (Below w.heap.size w (w.alloc (.cells #[.slice none 0 0] 37 (0, 0)))) := (Below.refl _ _).alloc (Nat.le_refl _) _
  go_enter Try.func14, Try.ntmps14
  go_wp2_with fail
  refine (HR.out).mono ?_
  rintro e w2 ⟨rfl, hb⟩
  have HN2 := blk_below HN.out hb
  have HB2 := Lib.hid (HB.out.trans (hb.mono (by simp)))
  clear hb HB HR
  have c2 := blk_cell HN2 0
  have f2 := blk_free HN2 0
  have l2 := blk_lt HN2
  simp only [List.getElem?_toArray, List.getElem?_cons_zero] at c2
  go_wp2_with fail
  have k2 := blk_cell (blk_set HN2 0 (.slice none 0 0)) 0
  simp only [List.setIfInBounds_toArray, List.set_cons_zero, List.getElem?_toArray, List.getElem?_cons_zero] at k2
  refine bodyPost_ret (v := .tuple #[.agg #[.slice none 0 0], .int .i64 4, .int .i64 1310]) (by simp [results, Try.results14, go_sem, k2]) rfl ?_
  exact ⟨rfl, HB2.out.setCell (by simp) _⟩
set_option maxHeartbeats 1000000 in
theorem EncodeImage_ex (w : World) : Calls Try.prog 15 #[.agg #[.slice none 0 0]] w fun e w' => e = .returned (.tuple #[sv [79, 82, 73, 0], .int .i64 0, .int .i64 0]) ∧ Below w.heap.size w w' := by
  have HI := Lib.hid (blk_new w (.cells #[.slice none 0 0] 37 (0, 0)))
  have HB : Hid (Below w.heap.size w (w.alloc (.cells #[.slice none 0 0] 37 (0, 0)))) := (Below.refl _ _).alloc (Nat.le_refl _) _
  go_enter Try.func15, Try.ntmps15
  go_wp2_with fail
  change Code.wp _ _ _ _ (w.alloc (.cells #[.slice none 0 0] 37 (0, 0)))
  generalize w.alloc (.cells #[.slice none 0 0] 37 (0, 0)) = w1 at *
  go_loopw [23] (fun v wr => wr = w1 ∧ v = .int .i64 0) (fun _ _ => 0)
  case atStart => exact ⟨rfl, rfl⟩
  case round =>
    obtain ⟨rfl, rfl⟩ := hrel
    go_wp2_with fail
    refine (Ground_nil wr).mono ?_; rintro e w4 ⟨rfl, -, -, -, hb⟩
    have HI2 := Lib.hid (blk_below HI.out hb)
    have HB2 := Lib.hid (HB.out.trans (hb.mono HB.out.size))
    clear hb
    have c0 := blk_cell HI2.out 0
    have l0 := blk_lt HI2.out
    simp only [List.getElem?_toArray, List.getElem?_cons_zero] at c0
    go_wp2_with fail
    refine (le1_any 0 w4 (by decide)).mono ?_; rintro e w5 ⟨rfl, hb⟩
    have HI3 := Lib.hid (blk_below HI2.out hb)
    have HB5 := Lib.hid (HB2.out.trans (hb.mono HB2.out.size))
    clear hb HB2 c0 l0
    have c0 := blk_cell HI3.out 0
    have l0 := blk_lt HI3.out
    simp only [List.getElem?_toArray, List.getElem?_cons_zero] at c0
    have hcat : (⟨#[79, 82, 73]⟩ : ByteArray) ++ ⟨([UInt8.ofNat 0] : Nm).toArray⟩ = ⟨([79, 82, 73, 0] : Nm).toArray⟩ := by rfl
    have hsz : (⟨([79, 82, 73, 0] : Nm).toArray⟩ : ByteArray).size = 4 := by rfl
    go_wp2_with fail
    go_loopw [11, 53] (fun s v wr2 => wr2 = w5 ∧ v = .int .i64 0 ∧ s = sv [79, 82, 73, 0]) (fun _ _ _ => 0)
    case atStart => exact ⟨rfl, rfl, rfl⟩
    case round =>
      obtain ⟨rfl, rfl, rfl⟩ := hrel
      go_wp2_with fail
      refine bodyPost_ret (v := .tuple #[sv [79, 82, 73, 0], .int .i64 0, .int .i64 0]) (by simp [results, Try.results15, go_sem]) rfl ?_
      exact ⟨rfl, HB5.out⟩
end Go.Proofs.Ytifhnpkapgaboaa.arch
