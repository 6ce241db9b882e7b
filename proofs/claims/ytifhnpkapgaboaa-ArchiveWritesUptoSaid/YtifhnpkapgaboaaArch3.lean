/-
  Proved: what the document's form, Form give. Conditions: as each theorem says.
-/
import Derived.Test.YtifhnpkapgaboaaArch2
import Derived.StillTailTactics
namespace Go.Proofs.Ytifhnpkapgaboaa.arch
open Go.RowKit
open heap
open path (sv str_size cleanB belowB)
set_option linter.unusedVariables false
set_option linter.unusedSimpArgs false
set_option maxRecDepth 100000

/-- What entries have that are not too large. -/
def small (e : Ent) : Prop := e.path.length ≤ 2000000 ∧ e.data.length ≤ 2000000
set_option maxHeartbeats 2000000 in
theorem form_any (es : List Ent) (e : Ent) (b o c : Nat) (w : World) (h : EAt w b o es) (hc : es.length ≤ c) (hcm : c ≤ 9223372036854775807) (hp : ∀ x ∈ es, small x) (he : small e) :
    Calls Try.prog 53 #[.slice (some ⟨b, o, none⟩) es.length c, entV e] w fun r w' => r = .returned (.int .i64 (entF es e)) ∧ Below w.heap.size w w' := by
  have HB : Hid (Below w.heap.size w (w.alloc (entO e))) := (Below.refl _ _).alloc (Nat.le_refl _) _
  have hbx := blk_new w (entO e)
  have HAH := Lib.hid (fun W (hW : Below w.heap.size w W) => ahead_any es e b o c W (h.below hW) hc hcm (fun x hx => (hp x hx).1) he.1)
  have HIC := Lib.hid (fun W => path.rIsClean_any e.path W he.1)
  have HSM := Lib.hid he
  have hdl := he.2
  clear h hc hcm hp he
  by_cases hk1 : e.kind < 1
  · have HF : Hid (entF es e = 1302) := by unfold Hid entF; rw [if_pos (.inl hk1)]
    have d1 : decide (e.kind < 1) = true := decide_eq_true hk1
    clear hk1
    go_enter Try.func53, Try.ntmps53
    go_wp2_with fail
    go_ret
    exact ⟨by rw [HF.out]; rfl, HB.out⟩
  have d1 : decide (e.kind < 1) = false := decide_eq_false hk1
  by_cases hk5 : 5 < e.kind
  · have HF : Hid (entF es e = 1302) := by unfold Hid entF; rw [if_pos (.inr hk5)]
    have d5 : decide (5 < e.kind) = true := decide_eq_true hk5
    clear hk1 hk5
    go_enter Try.func53, Try.ntmps53
    go_wp2_with fail
    go_ret
    exact ⟨by rw [HF.out]; rfl, HB.out⟩
  have d5 : decide (5 < e.kind) = false := decide_eq_false hk5
  have HF1 : Hid (entF es e = if pathE es e ≠ 0 then pathE es e else if modeB e.kind e.mode = false then 1306 else if lenB e.kind e.data.length = false then 1307 else if e.kind = 3 ∧ (0 : UInt8) ∈ e.data then 1308 else 0) := by
    unfold Hid entF; rw [if_neg (fun h => h.elim hk1 hk5)]
  clear hk1 hk5
  by_cases hp0 : e.path = []
  · have HF : Hid (entF es e = 1303) := by
      have hpe : pathE es e = 1303 := by rw [pathE_eq, if_pos (.inl hp0)]
      unfold Hid
      rw [HF1.out, hpe]; rfl
    have b0 : e.path.isEmpty = true := by rw [hp0]; rfl
    clear hp0 HF1
    go_enter Try.func53, Try.ntmps53
    go_wp2_with fail
    go_ret
    exact ⟨by rw [HF.out]; rfl, HB.out⟩
  have b0 : e.path.isEmpty = false := by cases hh : e.path with
    | nil => exact absurd hh hp0
    | cons a l => rfl
  have b0' : (e.path == []) = false := beq_eq_false_iff_ne.2 hp0
  have HP0 := Lib.hid hp0
  clear hp0
  go_enter Try.func53, Try.ntmps53
  go_wp2_with fail
  refine (HIC.out _).mono ?_; rintro r w1 ⟨rfl, hb⟩
  have HBX := Lib.hid (blk_below hbx hb)
  have HB1 : Hid (Below w.heap.size w w1) := HB.out.trans (hb.mono HB.out.size)
  clear hb HB hbx HIC d1 d5 b0 b0'
  cases hcl : cleanB e.path with
  | false =>
    have HF : Hid (entF es e = 1303) := by
      have hpe : pathE es e = 1303 := by rw [pathE_eq, if_pos (.inr hcl)]
      unfold Hid
      rw [HF1.out, hpe]; rfl
    clear hcl
    go_wp2_with fail
    go_ret
    exact ⟨by rw [HF.out]; rfl, HB1.out⟩
  | true =>
    have HPE : Hid (pathE es e = aheadF es e) := by
      unfold Hid
      rw [pathE_eq, if_neg (fun h => h.elim HP0.out (by rw [hcl]; decide))]
    rw [HPE.out] at HF1
    clear hcl
    have p0 := blk_cell (HBX.out) 0
    have p1 := blk_cell (HBX.out) 1
    have p2 := blk_cell (HBX.out) 2
    have p3 := blk_cell (HBX.out) 3
    have pl := blk_lt (HBX.out)
    simp only [List.getElem?_toArray, List.getElem?_cons_zero, List.getElem?_cons_succ] at p0 p1 p2 p3
    go_wp2_with fail
    refine (HAH.out _ HB1.out).mono ?_; rintro r w2 ⟨rfl, hb⟩
    have HBX2 := Lib.hid (blk_below HBX.out hb)
    have HB2 : Hid (Below w.heap.size w w2) := HB1.out.trans (hb.mono HB1.out.size)
    clear p0 p1 p2 p3 pl
    clear hb HBX HB1 HAH HPE
    by_cases ha : aheadF es e = 0
    · rw [ha] at HF1 ⊢
      rw [if_neg (by simp)] at HF1
      clear ha
      have p0 := blk_cell (HBX2.out) 0
      have p1 := blk_cell (HBX2.out) 1
      have p2 := blk_cell (HBX2.out) 2
      have p3 := blk_cell (HBX2.out) 3
      have pl := blk_lt (HBX2.out)
      simp only [List.getElem?_toArray, List.getElem?_cons_zero, List.getElem?_cons_succ] at p0 p1 p2 p3
      go_wp2_with fail
      refine (rmode_any e _).mono ?_; rintro r w3 ⟨rfl, hb⟩
      have HBX3 := Lib.hid (blk_below HBX2.out hb)
      have HB3 : Hid (Below w.heap.size w w3) := HB2.out.trans (hb.mono HB2.out.size)
      clear p0 p1 p2 p3 pl
      clear hb HBX2 HB2
      cases hm : modeB e.kind e.mode with
      | false =>
        rw [hm, if_pos rfl] at HF1
        clear hm
        go_wp2_with fail
        go_ret
        exact ⟨by rw [HF1.out]; rfl, HB3.out⟩
      | true =>
        rw [hm, if_neg (by decide)] at HF1
        clear hm
        have p0 := blk_cell (HBX3.out) 0
        have p1 := blk_cell (HBX3.out) 1
        have p2 := blk_cell (HBX3.out) 2
        have p3 := blk_cell (HBX3.out) 3
        have pl := blk_lt (HBX3.out)
        simp only [List.getElem?_toArray, List.getElem?_cons_zero, List.getElem?_cons_succ] at p0 p1 p2 p3
        go_wp2_with fail
        refine (rlength_any e.kind e.data.length _).mono ?_; rintro r w' ⟨rfl, rfl⟩
        cases hl : lenB e.kind e.data.length with
        | false =>
          rw [hl, if_pos rfl] at HF1
          clear hl
          go_wp2_with fail
          go_ret
          exact ⟨by rw [HF1.out]; rfl, HB3.out⟩
        | true =>
          rw [hl, if_neg (by decide)] at HF1
          clear hl
          by_cases k3 : e.kind = 3
          · have b3 : (e.kind == 3) = true := by simp [k3]
            go_wp2_with fail
            refine (target_any e.data _ (by omega)).mono ?_; rintro r w' ⟨rfl, rfl⟩
            by_cases hz : (0 : UInt8) ∈ e.data
            · rw [if_pos ⟨k3, hz⟩] at HF1
              rw [decide_eq_true hz]
              clear k3 hz
              go_wp2_with fail
              go_ret
              exact ⟨by rw [HF1.out]; rfl, HB3.out⟩
            · rw [if_neg (fun h => hz h.2)] at HF1
              rw [decide_eq_false hz]
              clear k3 hz
              go_wp2_with fail
              go_ret
              exact ⟨by rw [HF1.out]; rfl, HB3.out⟩
          · have b3 : (e.kind == 3) = false := beq_eq_false_iff_ne.2 k3
            rw [if_neg (fun h => k3 h.1)] at HF1
            clear k3
            go_wp2_with fail
            go_ret
            exact ⟨by rw [HF1.out]; rfl, HB3.out⟩
    · have hab : (aheadF es e != 0) = true := by simp [bne, ha]
      rw [if_pos ha] at HF1
      clear ha
      go_wp2_with fail
      go_ret
      exact ⟨by rw [HF1.out]; rfl, HB2.out⟩
/-- A layer as a value: a row of entries at b, o. -/
abbrev layV (b o n c : Nat) : Value := .agg #[.slice (some ⟨b, o, none⟩) n c]
theorem formG_step (es : List Ent) (f i : Nat) (e : Ent) (h : es[i]? = some e) : formG es (f + 1) i = if entF (es.take i) e = 0 then formG es f (i + 1) else ((i : Int), entF (es.take i) e) := by
  rw [formG, List.getD_eq_getElem?_getD, h]; rfl
set_option maxHeartbeats 2000000 in
theorem Form_any (es : List Ent) (b o c : Nat) (w : World) (h : EAt w b o es) (hc : es.length ≤ c) (hcm : c ≤ 9223372036854775807) (hp : ∀ x ∈ es, small x) :
    Calls Try.prog 27 #[layV b o es.length c] w fun r w' => r = .returned (.tuple #[.int .i64 (formL es).1, .int .i64 (formL es).2]) ∧ Below w.heap.size w w' := by
  have HB : Hid (Below w.heap.size w (w.alloc (.cells #[.slice (some ⟨b, o, none⟩) es.length c] 24 (0, 0)))) := (Below.refl _ _).alloc (Nat.le_refl _) _
  have hbx := blk_new w (.cells #[.slice (some ⟨b, o, none⟩) es.length c] 24 (0, 0))
  by_cases hm : 256 < es.length
  · have HF : Hid (formL es = (0, 1309)) := by unfold Hid formL; rw [if_pos hm]
    have d1 : decide (256 < (es.length : Int)) = true := decide_eq_true (by omega)
    clear h hp hm
    go_enter Try.func27, Try.ntmps27
    go_wp2_with fail
    go_ret2
    exact ⟨by rw [HF.out]; rfl, HB.out⟩
  have d1 : decide (256 < (es.length : Int)) = false := decide_eq_false (by omega)
  have HF : Hid (formL es = formG es es.length 0) := by unfold Hid formL; rw [if_neg hm]
  have HFM := Lib.hid (fun i (x : Ent) W (hx : es[i]? = some x) (hW : Below w.heap.size w W) (hi : i < es.length) => form_any (es.take i) x b o c W ((h.below hW).take i) (by rw [List.length_take]; omega) hcm (fun y hy => hp y (List.mem_of_mem_take hy)) (hp x (List.mem_of_getElem? hx)))
  have HE := Lib.hid h
  clear h hp
  go_enter Try.func27, Try.ntmps27
  go_wp2_with fail
  change Code.wp _ _ _ _ (w.alloc (.cells #[.slice (some ⟨b, o, none⟩) es.length c] 24 (0, 0)))
  generalize (w.alloc (.cells #[.slice (some ⟨b, o, none⟩) es.length c] 24 (0, 0))) = w1 at *
  have HBX := Lib.hid hbx
  clear hbx d1
  go_loopg [4] es.length (fun kk v4 wr => ∃ i : Nat, i + kk = es.length ∧ v4 = .int .i64 i ∧ Hid (formL es = formG es (es.length - i) i) ∧ Hid (Below w1.heap.size w1 wr))
  case atStart => exact ⟨0, by omega, rfl, HF, Below.refl _ _⟩
  case round =>
    clear HF
    obtain ⟨i, hik, rfl, HF, HW⟩ := hrel
    have hq := blk_below HBX.out HW.out
    have q0 := blk_cell hq 0
    have ql := blk_lt hq
    simp only [List.getElem?_toArray, List.getElem?_cons_zero] at q0
    have HBw : Hid (Below w.heap.size w wr) := HB.out.trans (HW.out.mono HB.out.size)
    clear hq
    by_cases hlt : i < es.length
    · cases gk with
      | zero => omega
      | succ gk =>
      obtain ⟨x, hx⟩ : ∃ x, es[i]? = some x := ⟨_, List.getElem?_eq_getElem hlt⟩
      obtain ⟨x0, x1, x2, x3⟩ := (HE.out.below HBw.out) i x hx
      have hii : (i : Int) < (es.length : Int) := by omega
      have hic : (i : Int) ≤ (c : Int) := by omega
      have HC := HFM.out i x wr.drew hx HBw.out.drew hlt
      rw [List.length_take, Nat.min_eq_left (by omega)] at HC
      have HS := Lib.hid (formG_step es (es.length - (i + 1)) i x hx)
      rw [show es.length - (i + 1) + 1 = es.length - i by omega] at HS
      have HC := Lib.hid HC
      clear hx
      go_wp2_with fail
      go_still_tail 9, (by kernel_rfl)
      change wpList _ _ _ _ _ wr.drew
      go_wp2_with fail
      refine HC.out.mono ?_; rintro r w2 ⟨rfl, hb⟩
      have HW2 : Hid (Below w1.heap.size w1 w2) := HW.out.trans ((Below.refl _ _).drew.trans (hb.mono (Nat.le_refl _)) |>.mono HW.out.size)
      have HBw2 : Hid (Below w.heap.size w w2) := HB.out.trans (HW2.out.mono HB.out.size)
      clear hb HC HW HBw x0 x1 x2 x3
      by_cases hf : entF (es.take i) x = 0
      · rw [hf] at HS ⊢
        rw [if_pos rfl] at HS
        clear hf
        go_wp2_with fail
        go_roundg gk
        case rel => exact ⟨i + 1, by omega, by go_num, HF.out.trans HS.out, HW2.out⟩
        case measure => omega
      · have hfb : (entF (es.take i) x != 0) = true := by simp [bne, hf]
        rw [if_neg hf] at HS
        have HF2 := Lib.hid (HF.out.trans HS.out)
        clear hf HS HF
        go_wp2_with fail
        go_ret2
        exact ⟨by rw [HF2.out]; rfl, HBw2.out⟩
    · have hi2 : i = es.length := by omega
      subst hi2
      rw [Nat.sub_self] at HF
      have HF2 : Hid (formL es = (0, 0)) := HF.out
      clear HF
      go_wp2_with fail
      go_ret2
      exact ⟨by rw [HF2.out]; rfl, HBw.out⟩
end Go.Proofs.Ytifhnpkapgaboaa.arch
