/-
  Proved: what the program's fault, May give. Conditions: as each theorem says.
-/
import Derived.Test.YtifhnpkapgaboaaArch6
namespace Go.Proofs.Ytifhnpkapgaboaa.arch
open Go.RowKit
open heap
open path (sv str_size cleanB cleanR belowB)
set_option linter.unusedVariables false
set_option linter.unusedSimpArgs false
set_option maxRecDepth 100000

set_option maxHeartbeats 2000000 in
theorem fault_any (es : List Ent) (e : Ent) (b o c : Nat) (w : World) (h : EAt w b o es) (hc : es.length ≤ c) (hcm : c ≤ 9223372036854775807) (hp : ∀ x ∈ es, small x) (he : small e) :
    Calls Try.prog 49 #[entV e, .slice (some ⟨b, o, none⟩) es.length c] w fun r w' => r = .returned (.int .i64 (entF es e)) ∧ Below w.heap.size w w' := by
  have HB : Hid (Below w.heap.size w (w.alloc (entO e))) := (Below.refl _ _).alloc (Nat.le_refl _) _
  have HBX := Lib.hid (blk_new w (entO e))
  have HPA := Lib.hid (fun W (hW : Below w.heap.size w W) => pathed_any es e (some ⟨b, o, none⟩) b o c W (fun _ => rfl) (h.below hW) hc hcm (fun x hx => (hp x hx).1) he.1)
  have hdl := he.2
  clear h hc hcm hp he
  go_enter Try.func49, Try.ntmps49
  go_wp2_with fail
  refine (known_any e.kind _).mono ?_; rintro r w' ⟨rfl, rfl⟩
  by_cases hk : e.kind < 1 ∨ 5 < e.kind
  · have HF : Hid (entF es e = 1302) := by unfold Hid entF; rw [if_pos hk]
    have hkb : (decide (1 ≤ e.kind) && decide (e.kind ≤ 5)) = false := by
      rcases hk with h | h
      · rw [decide_eq_false (show ¬ 1 ≤ e.kind by omega)]; rfl
      · rw [decide_eq_false (show ¬ e.kind ≤ 5 by omega), Bool.and_false]
    rw [hkb]
    clear hk hkb
    go_wp2_with fail
    go_ret
    exact ⟨by rw [HF.out]; rfl, HB.out⟩
  have hkb : (decide (1 ≤ e.kind) && decide (e.kind ≤ 5)) = true := by
    rw [decide_eq_true (show 1 ≤ e.kind by omega), decide_eq_true (show e.kind ≤ 5 by omega)]; rfl
  have HF1 : Hid (entF es e = if pathE es e ≠ 0 then pathE es e else if modeB e.kind e.mode = false then 1306 else if lenB e.kind e.data.length = false then 1307 else if e.kind = 3 ∧ (0 : UInt8) ∈ e.data then 1308 else 0) := by
    unfold Hid entF; rw [if_neg hk]
  rw [hkb]
  clear hk hkb
  go_wp2_with fail
  refine (HPA.out _ HB.out).mono ?_; rintro r w2 ⟨rfl, hb⟩
  have HBX2 := Lib.hid (blk_below HBX.out hb)
  have HB2 : Hid (Below w.heap.size w w2) := HB.out.trans (hb.mono HB.out.size)
  clear hb HBX HB HPA
  by_cases ha : pathE es e = 0
  · rw [ha] at HF1 ⊢
    rw [if_neg (by simp)] at HF1
    clear ha
    have p0 := blk_cell (HBX2.out) 0
    have p1 := blk_cell (HBX2.out) 1
    have p2 := blk_cell (HBX2.out) 2
    have p3 := blk_cell (HBX2.out) 3
    have pl := blk_lt (HBX2.out)
    simp only [List.getElem?_toArray, List.getElem?_cons_zero, List.getElem?_cons_succ] at p0 p1 p2 p3
    go_wp2_with fail
    refine (moded_any e _).mono ?_; rintro r w3 ⟨rfl, hb⟩
    have HBX3 := Lib.hid (blk_below HBX2.out hb)
    have HB3 : Hid (Below w.heap.size w w3) := HB2.out.trans (hb.mono HB2.out.size)
    clear p0 p1 p2 p3 pl
    clear hb HBX2 HB2
    cases hm : modeB e.kind e.mode with
    | false =>
      rw [hm, if_pos rfl] at HF1
      clear hm
      go_wp2_with fail
      go_ret
      exact ⟨by rw [HF1.out]; rfl, HB3.out⟩
    | true =>
      rw [hm, if_neg (by decide)] at HF1
      clear hm
      have p0 := blk_cell (HBX3.out) 0
      have p1 := blk_cell (HBX3.out) 1
      have p2 := blk_cell (HBX3.out) 2
      have p3 := blk_cell (HBX3.out) 3
      have pl := blk_lt (HBX3.out)
      simp only [List.getElem?_toArray, List.getElem?_cons_zero, List.getElem?_cons_succ] at p0 p1 p2 p3
      go_wp2_with fail
      refine (sized_any e.kind e.data.length _).mono ?_; rintro r w' ⟨rfl, rfl⟩
      cases hl : lenB e.kind e.data.length with
      | false =>
        rw [hl, if_pos rfl] at HF1
        clear hl
        go_wp2_with fail
        go_ret
        exact ⟨by rw [HF1.out]; rfl, HB3.out⟩
      | true =>
        rw [hl, if_neg (by decide)] at HF1
        clear hl
        by_cases k3 : e.kind = 3
        · have b3 : (e.kind == 3) = true := by simp [k3]
          go_wp2_with fail
          refine (Try.strings_Contains_one ⟨e.data.toArray⟩ 0 _).mono ?_; rintro r w' ⟨rfl, rfl⟩
          rw [show (⟨e.data.toArray⟩ : ByteArray).data.toList = e.data from rfl, index_mem]
          by_cases hz : (0 : UInt8) ∈ e.data
          · rw [if_pos ⟨k3, hz⟩] at HF1
            rw [decide_eq_true hz]
            clear k3 hz
            go_wp2_with fail
            go_ret
            exact ⟨by rw [HF1.out]; rfl, HB3.out⟩
          · rw [if_neg (fun h => hz h.2)] at HF1
            rw [decide_eq_false hz]
            clear k3 hz
            go_wp2_with fail
            go_ret
            exact ⟨by rw [HF1.out]; rfl, HB3.out⟩
        · have b3 : (e.kind == 3) = false := beq_eq_false_iff_ne.2 k3
          rw [if_neg (fun h => k3 h.1)] at HF1
          clear k3
          go_wp2_with fail
          go_ret
          exact ⟨by rw [HF1.out]; rfl, HB3.out⟩
  · have hab : (pathE es e != 0) = true := by simp [bne, ha]
    rw [if_pos ha] at HF1
    clear ha
    go_wp2_with fail
    go_ret
    exact ⟨by rw [HF1.out]; rfl, HB2.out⟩
set_option maxHeartbeats 2000000 in
theorem May_any (es : List Ent) (b o c : Nat) (w : World) (h : EAt w b o es) (hc : es.length ≤ c) (hcm : c ≤ 9223372036854775807) (hp : ∀ x ∈ es, small x) :
    Calls Try.prog 25 #[layV b o es.length c] w fun r w' => r = .returned (.tuple #[.int .i64 (formL es).1, .int .i64 (formL es).2]) ∧ Below w.heap.size w w' := by
  have HB : Hid (Below w.heap.size w (w.alloc (.cells #[.slice (some ⟨b, o, none⟩) es.length c] 24 (0, 0)))) := (Below.refl _ _).alloc (Nat.le_refl _) _
  have hbx := blk_new w (.cells #[.slice (some ⟨b, o, none⟩) es.length c] 24 (0, 0))
  by_cases hm : 256 < es.length
  · have HF : Hid (formL es = (0, 1309)) := by unfold Hid formL; rw [if_pos hm]
    have d1 : decide (256 < (es.length : Int)) = true := decide_eq_true (by omega)
    clear h hp hm
    go_enter Try.func25, Try.ntmps25
    go_wp2_with fail
    go_ret2
    exact ⟨by rw [HF.out]; rfl, HB.out⟩
  have d1 : decide (256 < (es.length : Int)) = false := decide_eq_false (by omega)
  have HF : Hid (formL es = formG es es.length 0) := by unfold Hid formL; rw [if_neg hm]
  have HFM := Lib.hid (fun i (x : Ent) W (hx : es[i]? = some x) (hW : Below w.heap.size w W) (hi : i < es.length) => fault_any (es.take i) x b o c W ((h.below hW).take i) (by rw [List.length_take]; omega) hcm (fun y hy => hp y (List.mem_of_mem_take hy)) (hp x (List.mem_of_getElem? hx)))
  have HE := Lib.hid h
  clear h hp
  go_enter Try.func25, Try.ntmps25
  go_wp2_with fail
  change Code.wp _ _ _ _ (w.alloc (.cells #[.slice (some ⟨b, o, none⟩) es.length c] 24 (0, 0)))
  generalize (w.alloc (.cells #[.slice (some ⟨b, o, none⟩) es.length c] 24 (0, 0))) = w1 at *
  have HBX := Lib.hid hbx
  clear hbx d1
  go_loopg [14] es.length (fun kk v14 wr => ∃ i : Nat, i + kk = es.length ∧ v14 = .int .i64 i ∧ Hid (formL es = formG es (es.length - i) i) ∧ Hid (Below w1.heap.size w1 wr))
  case atStart => exact ⟨0, by omega, rfl, HF, Below.refl _ _⟩
  case round =>
    clear HF
    obtain ⟨i, hik, rfl, HF, HW⟩ := hrel
    have HBw : Hid (Below w.heap.size w wr) := HB.out.trans (HW.out.mono HB.out.size)
    by_cases hlt : i < es.length
    · cases gk with
      | zero => omega
      | succ gk =>
      obtain ⟨x, hx⟩ : ∃ x, es[i]? = some x := ⟨_, List.getElem?_eq_getElem hlt⟩
      obtain ⟨x0, x1, x2, x3⟩ := (HE.out.below HBw.out) i x hx
      have hii : (i : Int) < (es.length : Int) := by omega
      have hic : (i : Int) ≤ (c : Int) := by omega
      have HNEW := Lib.hid (blk_new wr (entO x))
      have HBA : Hid (Below wr.heap.size wr (wr.alloc (entO x))) := (Below.refl _ _).alloc (Nat.le_refl _) _
      have HW4 : Hid (Below w1.heap.size w1 (wr.alloc (entO x))) := HW.out.trans (HBA.out.mono HW.out.size)
      have HBw4 : Hid (Below w.heap.size w (wr.alloc (entO x))) := HBw.out.trans (HBA.out.mono HBw.out.size)
      have HC := HFM.out i x (wr.alloc (entO x)).drew hx HBw4.out.drew hlt
      rw [List.length_take, Nat.min_eq_left (by omega)] at HC
      have HS := Lib.hid (formG_step es (es.length - (i + 1)) i x hx)
      rw [show es.length - (i + 1) + 1 = es.length - i by omega] at HS
      have HC := Lib.hid HC
      clear hx
      go_upto_region 6 with fail
      change Code.wp _ _ _ _ (wr.alloc (entO x))
      generalize (wr.alloc (entO x)) = w4 at *
      generalize wr.heap.size = b5 at *
      clear x0 x1 x2 x3
      have hq := blk_below HBX.out HW4.out
      have q0 := blk_cell hq 0
      have ql := blk_lt hq
      simp only [List.getElem?_toArray, List.getElem?_cons_zero] at q0
      clear hq
      have p0 := blk_cell (HNEW.out) 0
      have p1 := blk_cell (HNEW.out) 1
      have p2 := blk_cell (HNEW.out) 2
      have p3 := blk_cell (HNEW.out) 3
      have pl := blk_lt (HNEW.out)
      simp only [List.getElem?_toArray, List.getElem?_cons_zero, List.getElem?_cons_succ] at p0 p1 p2 p3
      go_still_tail 5, (by kernel_rfl)
      change wpList _ _ _ _ _ w4.drew
      go_wp2_with fail
      refine HC.out.mono ?_; rintro r w2 ⟨rfl, hb⟩
      have HW2 : Hid (Below w1.heap.size w1 w2) := HW4.out.trans ((Below.refl _ _).drew.trans (hb.mono (Nat.le_refl _)) |>.mono HW4.out.size)
      have HBw2 : Hid (Below w.heap.size w w2) := HB.out.trans (HW2.out.mono HB.out.size)
      clear p0 p1 p2 p3 pl
      clear hb HC HW HBw HW4 HBw4 q0 ql
      by_cases hf : entF (es.take i) x = 0
      · rw [hf] at HS ⊢
        rw [if_pos rfl] at HS
        clear hf
        go_wp2_with fail
        go_roundg gk
        case rel => exact ⟨i + 1, by omega, by go_num, HF.out.trans HS.out, HW2.out⟩
        case measure => omega
      · have hfb : (entF (es.take i) x != 0) = true := by simp [bne, hf]
        rw [if_neg hf] at HS
        have HF2 := Lib.hid (HF.out.trans HS.out)
        clear hf HS HF
        go_wp2_with fail
        go_ret2
        exact ⟨by rw [HF2.out]; rfl, HBw2.out⟩
    · have hi2 : i = es.length := by omega
      subst hi2
      rw [Nat.sub_self] at HF
      have HF2 : Hid (formL es = (0, 0)) := HF.out
      clear HF
      go_wp2_with fail
      go_ret2
      exact ⟨by rw [HF2.out]; rfl, HBw.out⟩
end Go.Proofs.Ytifhnpkapgaboaa.arch
