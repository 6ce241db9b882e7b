/-
  Proved: what the document's own Cut and Parts give; SameTexts, SpoilTexts. Conditions: as each theorem says.
-/
import Derived.Test.YtifhnpkapgaboaaPathRef1
import Derived.Test.YtifhnpkapgaboaaReg
namespace Go.Proofs.Ytifhnpkapgaboaa.path
open Go.RowKit Go.Shelf
open heap
set_option linter.unusedVariables false

theorem cut_str (l : List UInt8) (f j : Nat) : (⟨l.toArray⟩ : ByteArray).extract f j = ⟨((l.drop f).take (j - f)).toArray⟩ := by
  apply ByteArray.ext
  rw [ByteArray.data_extract]
  simp [List.extract_eq_take_drop]
theorem cut_more (l : List UInt8) (f j : Nat) (hf : f ≤ j) (hj : j < l.length) : (l.drop f).take (j + 1 - f) = (l.drop f).take (j - f) ++ [l[j]] := by
  have e : j + 1 - f = (j - f) + 1 := by omega
  rw [e, List.take_add_one, List.getElem?_drop, show f + (j - f) = j by omega, List.getElem?_eq_getElem hj]
  rfl
theorem cut_here (l : List UInt8) (f j : Nat) (hf : f ≤ j) (hj : j < l.length) (h47 : l[j] = 47) (hn : (47 : UInt8) ∉ (l.drop f).take (j - f)) : piecesL (l.drop f) = ((l.drop f).take (j - f)) :: piecesL (l.drop (j + 1)) := by
  have e : l.drop f = (l.drop f).take (j - f) ++ 47 :: l.drop (j + 1) := by
    conv => lhs; rw [← List.take_append_drop (j - f) (l.drop f)]
    rw [List.drop_drop, show f + (j - f) = j by omega, List.drop_eq_getElem_cons hj, h47]
  conv => lhs; rw [e]
  exact pieces_yes _ _ hn
structure CutI (l : List UInt8) (j f : Nat) (ps : List (List UInt8)) : Prop where
  jl : j ≤ l.length
  fj : f ≤ j
  pc : piecesL l = ps ++ piecesL (l.drop f)
  no : (47 : UInt8) ∉ (l.drop f).take (j - f)
set_option maxRecDepth 100000 in
set_option maxHeartbeats 1000000 in
theorem rCut_any (l : List UInt8) (w : World) (hl : l.length ≤ 2000000) :
    Calls Try.prog 122 #[sv l] w fun e w' => ∃ v, e = .returned v ∧ SRow w' w.heap.size v (piecesL l) ∧ Below w.heap.size w w' := by
  have z := str_size l
  have HBD := Lib.hid (pieces_bd l)
  go_enter Try.func122, Try.ntmps122
  go_wp2_with fail
  go_loopw [3, 4, 5] (fun o fr i wr => ∃ (j f : Nat) (ps : List (List UInt8)) (a : Option Addr) (n c : Nat), j ≤ l.length + 1 ∧ i = .int .i64 j ∧ fr = .int .i64 f ∧ o = .slice a n c ∧ Hid (CutI l j f ps ∨ (j = l.length + 1 ∧ ps = piecesL l)) ∧ Hid (SRow wr w.heap.size (.slice a n c) ps ∧ Below w.heap.size w wr)) (fun _ _ i _ => l.length + 1 - (intOf i).toNat)
  case atStart => exact ⟨0, 0, [], none, 0, 0, by omega, rfl, rfl, rfl, .inl ⟨by omega, by omega, by simp, by simp⟩, World.ownsRow_nil _ _ _ _, Below.refl _ _⟩
  case round =>
    obtain ⟨j, f, ps, a, n, c, hj, rfl, rfl, rfl, HC, HR⟩ := hrel
    by_cases hlt : j ≤ l.length
    · have hci : CutI l j f ps := HC.out.resolve_right (fun h => by omega)
      have hps : ps.length ≤ 2000000 := by
        have h1 := HBD.out.1
        have h2 := congrArg List.length hci.pc
        have h3 : 0 < (piecesL (l.drop f)).length := List.length_pos_iff.2 (piecesL_ne _)
        rw [List.length_append] at h2
        omega
      have hfj := hci.fj
      obtain ⟨seg, hseg⟩ : ∃ seg, seg = (l.drop f).take (j - f) := ⟨_, rfl⟩
      have hex : (⟨l.toArray⟩ : ByteArray).extract f j = ⟨seg.toArray⟩ := by rw [cut_str, hseg]
      have hzj : j ≤ (⟨l.toArray⟩ : ByteArray).size := by rw [z]; exact hlt
      have hsn : n = ps.length := (SRow.drop HR.out.1).1
      obtain ⟨g0, cp, w', hrun, hown, hgr, hlies⟩ := append_s (wr.alloc (.cells #[sv seg] 9)) w.heap.size (.slice a n c) ps.length _ (World.ownsRow.alloc HR.out.1 _) ⟨wr.heap.size, 0, none⟩ 1 1 [sv seg] rfl (fun k u hu => by rw [add0, blk_cell (blk_new wr _)]; simpa using hu) (by simp [Value.oneCell']) (by decide) (by omega) (by have := HR.out.2.size; simp; omega)
      have HRUN := Lib.hid hrun
      have HNEW : Hid (SRow w' w.heap.size (.slice (some ⟨g0, 0, none⟩) (ps.length + 1) cp) (ps ++ [seg]) ∧ Below w.heap.size w w') := by
        refine ⟨by unfold SRow; rw [List.length_append, List.map_append]; exact hown, ?_⟩
        have hlt := World.ownsRow.lt HR.out.1
        have hb := HR.out.2
        refine ⟨hgr.os.trans hb.os, hgr.tape.trans hb.tape, hgr.output.trans hb.output, by have h1 := hgr.size; have h2 := hb.size; simp at h1; omega, fun b hb' => ?_⟩
        have hbs := hb.size
        rw [hgr.block b (by simp; omega) (fun e => by have := (hlt b e.symm).1; omega), Below.heap_alloc _ _ _ (by omega)]
        exact hb.block b hb'
      have HCI := Lib.hid hci
      have HSEG := Lib.hid hseg
      clear hci hrun hown hgr hlies hseg HC
      by_cases hend : j = l.length
      · subst hend
        have hi2 : ((l.length : Int) == (l.length : Int)) = true := by simp
        have HFIN : Hid (ps ++ [seg] = piecesL l) := by
          have h1 := HCI.out.no
          have e : (l.drop f).take (l.length - f) = l.drop f := by rw [List.take_of_length_le]; simp
          rw [e] at h1
          rw [Hid, HCI.out.pc, pieces_no _ h1, HSEG.out, e]
        go_wp2_with (at_builtin; refine reg.wpList_append rfl rfl rfl rfl rfl HRUN.out ?_)
        go_roundw
        case rel => exact ⟨l.length + 1, l.length + 1, ps ++ [seg], _, _, _, by omega, by go_num, by go_num, rfl, .inr ⟨rfl, HFIN.out⟩, HNEW⟩
        case measure => simp [intOf]
      · have hjl : j < l.length := by omega
        have hji : ((j : Int) == (l.length : Int)) = false := by rw [beq_eq_false_iff_ne]; omega
        have hz : j < (⟨l.toArray⟩ : ByteArray).size := by rw [z]; exact hjl
        obtain ⟨x, hx⟩ : ∃ x : UInt8, (⟨l.toArray⟩ : ByteArray)[j]'hz = x := ⟨_, rfl⟩
        have HX : Hid (l[j]'hjl = x) := hx
        by_cases e1 : x = 47
        · have HCN : Hid (CutI l (j + 1) (j + 1) (ps ++ [seg])) := by
            refine ⟨by omega, by omega, ?_, by simp⟩
            rw [HCI.out.pc, cut_here l f j hfj hjl (HX.out.trans e1) HCI.out.no, HSEG.out]
            simp
          subst e1
          go_wp2_with (at_builtin; refine reg.wpList_append rfl rfl rfl rfl rfl HRUN.out ?_)
          go_roundw
          case rel => exact ⟨j + 1, j + 1, ps ++ [seg], _, _, _, by omega, by go_num, by go_num, rfl, .inl HCN.out, HNEW⟩
          case measure => simp [intOf]; omega
        · have HCN : Hid (CutI l (j + 1) f ps) := by
            refine ⟨by omega, by omega, HCI.out.pc, ?_⟩
            rw [cut_more l f j hfj hjl, HX.out]
            intro hm
            rcases List.mem_append.1 hm with h | h
            · exact HCI.out.no h
            · exact e1 (List.mem_singleton.1 h).symm
          obtain ⟨cc, hc⟩ : ∃ c : Nat, x.toNat = c := ⟨_, rfl⟩
          have n1 : cc ≠ 47 := fun h => e1 (UInt8.toNat_inj.1 (hc.trans h))
          have n3 : ((cc : Int) == 47) = false := by rw [beq_eq_false_iff_ne]; omega
          clear e1
          go_wp2_with fail
          go_roundw
          case rel => exact ⟨j + 1, f, ps, _, _, _, by omega, by go_num, rfl, rfl, .inl HCN.out, HR⟩
          case measure => simp [intOf]; omega
    · obtain rfl : j = l.length + 1 := by omega
      have hps : ps = piecesL l := by
        rcases HC.out with h | h
        · have := h.jl; omega
        · exact h.2
      subst hps
      go_wp2_with fail
      go_ret
      exact ⟨_, rfl, HR.out.1, HR.out.2⟩
set_option maxRecDepth 100000 in
theorem rParts_any (l : List UInt8) (w : World) (hl : l.length ≤ 2000000) :
    Calls Try.prog 99 #[sv l] w fun e w' => ∃ v, e = .returned v ∧ SRow w' w.heap.size v (partsL l) ∧ Below w.heap.size w w' := by
  by_cases h0 : l = []
  · subst h0
    go_enter Try.func99, Try.ntmps99
    go_wp2
    go_ret
    exact ⟨_, rfl, World.ownsRow_nil _ _ _ _, Below.refl _ _⟩
  · have b0 : l.isEmpty = false := by cases l <;> simp_all
    have b0' : (l == []) = false := by rw [beq_eq_false_iff_ne]; exact h0
    have HC := Lib.hid (fun W : World => rCut_any l W hl)
    have HP : Hid (partsL l = piecesL l) := by rw [Hid, partsL, if_neg h0]
    clear h0
    go_enter Try.func99, Try.ntmps99
    go_wp2_with fail
    (with_reducible refine (HC.out _).mono ?_); rintro e w1 ⟨v, rfl, hr, hb⟩
    have HR := Lib.hid hr
    have HB := Lib.hid hb
    clear hr hb
    go_wp2_with fail
    go_ret
    exact ⟨_, rfl, by rw [HP.out]; exact HR.out, HB.out⟩
theorem SRow.set {w : World} {base g n c : Nat} {ys : List (List UInt8)} (h : SRow w base (.slice (some ⟨g, 0, none⟩) n c) ys) (j : Nat) (q : List UInt8) : SRow (w.setCell ⟨g, j, none⟩ (sv q)) base (.slice (some ⟨g, 0, none⟩) n c) (ys.set j q) := by
  obtain ⟨hl, ⟨h1, h2⟩ | ⟨g', c', cur, hv, h2, h3, h4, h5, h6, h7⟩⟩ := h
  · cases h1
  · simp only [Value.slice.injEq, Option.some.injEq, Addr.mk.injEq] at hv
    obtain ⟨⟨rfl, -, -⟩, rfl, rfl⟩ := hv
    refine ⟨by simp, .inr ⟨g, c, cur.setIfInBounds j (sv q), by simp, h2, blk_set h3 j _, by simpa using h4, h5, by simpa using h6, ?_⟩⟩
    rw [List.length_set, Array.toList_setIfInBounds, List.take_set, h7, List.map_set]
end Go.Proofs.Ytifhnpkapgaboaa.path
