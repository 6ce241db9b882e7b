/-
  Proved: what the document's own Name, Join, Below give; that SameTexts says true of equal rows. Conditions: as each theorem says.
  Proved: what the document's own Cut and Parts give; SameTexts, SpoilTexts. Conditions: as each theorem says.
  Proved: what the document's own IsClean and Below give. Conditions: as each theorem says.
-/
import Derived.Test.YtifhnpkapgaboaaPk9
import Derived.Test.YtifhnpkapgaboaaPk3
namespace Go.Proofs.Ytifhnpkapgaboaa.path
open Go.RowKit Go.Shelf
open heap
set_option linter.unusedVariables false

theorem name_eq (l : List UInt8) (h0 : l ≠ []) (b : Bool) (h : b = true ↔ ((l = [46] ∨ l = [46, 46] ∨ 16 < l.length) ∨ (47 : UInt8) ∈ l ∨ (0 : UInt8) ∈ l)) : nameE l = if b = true then 401 else 0 := by
  rw [nameE, if_neg h0]
  by_cases hb : b = true
  · rw [if_pos hb, if_pos]
    rcases h.1 hb with (h | h | h) | h | h
    · exact .inr (.inl h)
    · exact .inr (.inr (.inl h))
    · exact .inl h
    · exact .inr (.inr (.inr (.inl h)))
    · exact .inr (.inr (.inr (.inr h)))
  · rw [if_neg hb, if_neg]
    intro h'
    apply hb
    rw [h]
    rcases h' with h | h | h | h | h
    · exact .inl (.inr (.inr h))
    · exact .inl (.inl h)
    · exact .inl (.inr (.inl h))
    · exact .inr (.inl h)
    · exact .inr (.inr h)
theorem mem_take_succ (l : List UInt8) (j : Nat) (x : UInt8) (hj : j < l.length) : x ∈ l.take (j + 1) ↔ x ∈ l.take j ∨ l[j] = x := by
  rw [List.take_add_one, List.getElem?_eq_getElem hj, List.mem_append, Option.toList_some, List.mem_singleton, eq_comm (a := x)]
set_option maxRecDepth 100000 in
set_option maxHeartbeats 1000000 in
theorem rName_any (l : List UInt8) (w : World) (hs : l.length ≤ 9223372036854775806) :
    Calls Try.prog 100 #[sv l] w fun e w' => e = .returned (.int .i64 (nameE l)) ∧ w = w' := by
  have z := str_size l
  by_cases h0 : l = []
  · subst h0
    go_enter Try.func100, Try.ntmps100
    go_wp2
    go_ret
    exact ⟨rfl, rfl⟩
  · have b0 : l.isEmpty = false := by cases l <;> simp_all
    have b0' : (l == []) = false := by rw [beq_eq_false_iff_ne]; exact h0
    have HN := Lib.hid (name_eq l h0)
    obtain ⟨P, hP⟩ : ∃ P : Prop, P = (l = [46] ∨ l = [46, 46] ∨ 16 < l.length) := ⟨_, rfl⟩
    rw [← hP] at HN
    have hcs : ∃ bb : Bool, (bb = true ↔ P) ∧ (((l == [46]) = true ∧ bb = true) ∨ ((l == [46]) = false ∧ (l == [46, 46]) = true ∧ bb = true) ∨ ((l == [46]) = false ∧ (l == [46, 46]) = false ∧ decide ((16 : Int) < (l.length : Int)) = true ∧ bb = true) ∨ ((l == [46]) = false ∧ (l == [46, 46]) = false ∧ decide ((16 : Int) < (l.length : Int)) = false ∧ bb = false)) := by
      refine ⟨decide (l = [46] ∨ l = [46, 46] ∨ 16 < l.length), by rw [hP, decide_eq_true_iff], ?_⟩
      by_cases h1 : l = [46]
      · exact .inl ⟨by simp [h1], by simp [h1]⟩
      · by_cases h2 : l = [46, 46]
        · exact .inr (.inl ⟨by simp [h2], by simp [h2], by simp [h2]⟩)
        · by_cases h3 : 16 < l.length
          · exact .inr (.inr (.inl ⟨by simp [h1], by simp [h2], decide_eq_true (by omega), by simp [h3]⟩))
          · exact .inr (.inr (.inr ⟨by simp [h1], by simp [h2], decide_eq_false (by omega), by simp [h1, h2]; omega⟩))
    obtain ⟨bb, hbb, hcs⟩ := hcs
    have HB := Lib.hid hbb
    clear hP hbb h0
    rcases hcs with ⟨b1, rfl⟩ | ⟨b1, b2, rfl⟩ | ⟨b1, b2, h3, rfl⟩ | ⟨b1, b2, h3, rfl⟩
    all_goals
      go_enter Try.func100, Try.ntmps100
      go_wp2_with fail
      go_loopw [3, 4] (fun b i wr => ∃ (j : Nat) (bv : Bool), j ≤ l.length ∧ b = .bool bv ∧ i = .int .i64 j ∧ Hid (bv = true ↔ (P ∨ (47 : UInt8) ∈ l.take j ∨ (0 : UInt8) ∈ l.take j)) ∧ Hid (w = wr)) (fun _ i _ => l.length - (intOf i).toNat)
      case atStart => exact ⟨0, _, by omega, rfl, rfl, by rw [Hid]; simpa using HB.out, rfl⟩
      case round =>
        obtain ⟨j, bv, hj, rfl, rfl, HV, HW⟩ := hrel
        by_cases hlt : j < l.length
        · have hji : (j : Int) < l.length := by omega
          have hz : j < (⟨l.toArray⟩ : ByteArray).size := by rw [z]; exact hlt
          obtain ⟨x, hx⟩ : ∃ x : UInt8, (⟨l.toArray⟩ : ByteArray)[j]'hz = x := ⟨_, rfl⟩
          have HX : Hid (l[j]'hlt = x) := hx
          have HM47 := Lib.hid (mem_take_succ l j 47 hlt)
          have HM0 := Lib.hid (mem_take_succ l j 0 hlt)
          cases bv with
          | true =>
            have HV2 : Hid (true = true ↔ (P ∨ (47 : UInt8) ∈ l.take (j + 1) ∨ (0 : UInt8) ∈ l.take (j + 1))) := by
              rw [Hid, HM47.out, HM0.out]
              refine ⟨fun _ => ?_, fun _ => rfl⟩
              rcases HV.out.1 rfl with h | h | h
              · exact .inl h
              · exact .inr (.inl (.inl h))
              · exact .inr (.inr (.inl h))
            clear HM47 HM0 HV
            go_wp2_with fail
            go_roundw
            case rel => exact ⟨j + 1, true, by omega, rfl, by go_num, HV2, HW⟩
            case measure => simp [intOf]; omega
          | false =>
            by_cases e1 : x = 47
            · have HV2 : Hid (true = true ↔ (P ∨ (47 : UInt8) ∈ l.take (j + 1) ∨ (0 : UInt8) ∈ l.take (j + 1))) := by
                rw [Hid, HM47.out, HM0.out]
                exact ⟨fun _ => .inr (.inl (.inr (HX.out.trans e1))), fun _ => rfl⟩
              subst e1
              clear HM47 HM0 HV
              go_wp2_with fail
              go_roundw
              case rel => exact ⟨j + 1, true, by omega, rfl, by go_num, HV2, HW⟩
              case measure => simp [intOf]; omega
            · by_cases e2 : x = 0
              · have HV2 : Hid (true = true ↔ (P ∨ (47 : UInt8) ∈ l.take (j + 1) ∨ (0 : UInt8) ∈ l.take (j + 1))) := by
                  rw [Hid, HM47.out, HM0.out]
                  exact ⟨fun _ => .inr (.inr (.inr (HX.out.trans e2))), fun _ => rfl⟩
                subst e2
                clear HM47 HM0 HV e1
                go_wp2_with fail
                go_roundw
                case rel => exact ⟨j + 1, true, by omega, rfl, by go_num, HV2, HW⟩
                case measure => simp [intOf]; omega
              · have HV2 : Hid (false = true ↔ (P ∨ (47 : UInt8) ∈ l.take (j + 1) ∨ (0 : UInt8) ∈ l.take (j + 1))) := by
                  rw [Hid, HM47.out, HM0.out, HX.out]
                  rw [HV.out]
                  refine ⟨fun h => ?_, fun h => ?_⟩
                  · rcases h with h | h | h
                    · exact .inl h
                    · exact .inr (.inl (.inl h))
                    · exact .inr (.inr (.inl h))
                  · rcases h with h | (h | h) | h | h
                    · exact .inl h
                    · exact .inr (.inl h)
                    · exact absurd h e1
                    · exact .inr (.inr h)
                    · exact absurd h e2
                obtain ⟨c, hc⟩ : ∃ c : Nat, x.toNat = c := ⟨_, rfl⟩
                have n1 : c ≠ 47 := fun h => e1 (UInt8.toNat_inj.1 (hc.trans h))
                have n2 : c ≠ 0 := fun h => e2 (UInt8.toNat_inj.1 (hc.trans h))
                have n3 : ((c : Int) == 47) = false := by rw [beq_eq_false_iff_ne]; omega
                have n4 : ((c : Int) == 0) = false := by rw [beq_eq_false_iff_ne]; omega
                clear HM47 HM0 HV e1 e2
                go_wp2_with fail
                go_roundw
                case rel => exact ⟨j + 1, false, by omega, rfl, by go_num, HV2, HW⟩
                case measure => simp [intOf]; omega
        · obtain rfl : j = l.length := by omega
          have hv := HV.out
          rw [List.take_length] at hv
          have hnm := HN.out bv hv
          have HNM := Lib.hid hnm
          clear hv hnm HV
          cases bv with
          | true =>
            go_wp2_with fail
            go_ret
            exact ⟨by rw [HNM.out]; rfl, HW.out⟩
          | false =>
            go_wp2_with fail
            go_ret
            exact ⟨by rw [HNM.out]; rfl, HW.out⟩
end Go.Proofs.Ytifhnpkapgaboaa.path

namespace Go.Proofs.Ytifhnpkapgaboaa.path
open Go.RowKit Go.Shelf
open heap
set_option linter.unusedVariables false

theorem cut_str (l : List UInt8) (f j : Nat) : (⟨l.toArray⟩ : ByteArray).extract f j = ⟨((l.drop f).take (j - f)).toArray⟩ := by
  apply ByteArray.ext
  rw [ByteArray.data_extract]
  simp [List.extract_eq_take_drop]
theorem cut_more (l : List UInt8) (f j : Nat) (hf : f ≤ j) (hj : j < l.length) : (l.drop f).take (j + 1 - f) = (l.drop f).take (j - f) ++ [l[j]] := by
  have e : j + 1 - f = (j - f) + 1 := by omega
  rw [e, List.take_add_one, List.getElem?_drop, show f + (j - f) = j by omega, List.getElem?_eq_getElem hj]
  rfl
theorem cut_here (l : List UInt8) (f j : Nat) (hf : f ≤ j) (hj : j < l.length) (h47 : l[j] = 47) (hn : (47 : UInt8) ∉ (l.drop f).take (j - f)) : piecesL (l.drop f) = ((l.drop f).take (j - f)) :: piecesL (l.drop (j + 1)) := by
  have e : l.drop f = (l.drop f).take (j - f) ++ 47 :: l.drop (j + 1) := by
    conv => lhs; rw [← List.take_append_drop (j - f) (l.drop f)]
    rw [List.drop_drop, show f + (j - f) = j by omega, List.drop_eq_getElem_cons hj, h47]
  conv => lhs; rw [e]
  exact pieces_yes _ _ hn
structure CutI (l : List UInt8) (j f : Nat) (ps : List (List UInt8)) : Prop where
  jl : j ≤ l.length
  fj : f ≤ j
  pc : piecesL l = ps ++ piecesL (l.drop f)
  no : (47 : UInt8) ∉ (l.drop f).take (j - f)
set_option maxRecDepth 100000 in
set_option maxHeartbeats 1000000 in
theorem rCut_any (l : List UInt8) (w : World) (hl : l.length ≤ 2000000) :
    Calls Try.prog 122 #[sv l] w fun e w' => ∃ v, e = .returned v ∧ SRow w' w.heap.size v (piecesL l) ∧ Below w.heap.size w w' := by
  have z := str_size l
  have HBD := Lib.hid (pieces_bd l)
  go_enter Try.func122, Try.ntmps122
  go_wp2_with fail
  go_loopw [3, 4, 5] (fun o fr i wr => ∃ (j f : Nat) (ps : List (List UInt8)) (a : Option Addr) (n c : Nat), j ≤ l.length + 1 ∧ i = .int .i64 j ∧ fr = .int .i64 f ∧ o = .slice a n c ∧ Hid (CutI l j f ps ∨ (j = l.length + 1 ∧ ps = piecesL l)) ∧ Hid (SRow wr w.heap.size (.slice a n c) ps ∧ Below w.heap.size w wr)) (fun _ _ i _ => l.length + 1 - (intOf i).toNat)
  case atStart => exact ⟨0, 0, [], none, 0, 0, by omega, rfl, rfl, rfl, .inl ⟨by omega, by omega, by simp, by simp⟩, World.ownsRow_nil _ _ _ _, Below.refl _ _⟩
  case round =>
    obtain ⟨j, f, ps, a, n, c, hj, rfl, rfl, rfl, HC, HR⟩ := hrel
    by_cases hlt : j ≤ l.length
    · have hci : CutI l j f ps := HC.out.resolve_right (fun h => by omega)
      have hps : ps.length ≤ 2000000 := by
        have h1 := HBD.out.1
        have h2 := congrArg List.length hci.pc
        have h3 : 0 < (piecesL (l.drop f)).length := List.length_pos_iff.2 (piecesL_ne _)
        rw [List.length_append] at h2
        omega
      have hfj := hci.fj
      obtain ⟨seg, hseg⟩ : ∃ seg, seg = (l.drop f).take (j - f) := ⟨_, rfl⟩
      have hex : (⟨l.toArray⟩ : ByteArray).extract f j = ⟨seg.toArray⟩ := by rw [cut_str, hseg]
      have hzj : j ≤ (⟨l.toArray⟩ : ByteArray).size := by rw [z]; exact hlt
      have hsn : n = ps.length := (SRow.drop HR.out.1).1
      obtain ⟨g0, cp, w', hrun, hown, hgr, hlies⟩ := append_s (wr.alloc (.cells #[sv seg] 9)) w.heap.size (.slice a n c) ps.length _ (World.ownsRow.alloc HR.out.1 _) ⟨wr.heap.size, 0, none⟩ 1 1 [sv seg] rfl (fun k u hu => by rw [add0, blk_cell (blk_new wr _)]; simpa using hu) (by simp [Value.oneCell']) (by decide) (by omega) (by have := HR.out.2.size; simp; omega)
      have HRUN := Lib.hid hrun
      have HNEW : Hid (SRow w' w.heap.size (.slice (some ⟨g0, 0, none⟩) (ps.length + 1) cp) (ps ++ [seg]) ∧ Below w.heap.size w w') := by
        refine ⟨by unfold SRow; rw [List.length_append, List.map_append]; exact hown, ?_⟩
        have hlt := World.ownsRow.lt HR.out.1
        have hb := HR.out.2
        refine ⟨hgr.os.trans hb.os, hgr.tape.trans hb.tape, hgr.output.trans hb.output, by have h1 := hgr.size; have h2 := hb.size; simp at h1; omega, fun b hb' => ?_⟩
        have hbs := hb.size
        rw [hgr.block b (by simp; omega) (fun e => by have := (hlt b e.symm).1; omega), Below.heap_alloc _ _ _ (by omega)]
        exact hb.block b hb'
      have HCI := Lib.hid hci
      have HSEG := Lib.hid hseg
      clear hci hrun hown hgr hlies hseg HC
      by_cases hend : j = l.length
      · subst hend
        have hi2 : ((l.length : Int) == (l.length : Int)) = true := by simp
        have HFIN : Hid (ps ++ [seg] = piecesL l) := by
          have h1 := HCI.out.no
          have e : (l.drop f).take (l.length - f) = l.drop f := by rw [List.take_of_length_le]; simp
          rw [e] at h1
          rw [Hid, HCI.out.pc, pieces_no _ h1, HSEG.out, e]
        go_wp2_with (at_builtin; refine reg.wpList_append rfl rfl rfl rfl rfl HRUN.out ?_)
        go_roundw
        case rel => exact ⟨l.length + 1, l.length + 1, ps ++ [seg], _, _, _, by omega, by go_num, by go_num, rfl, .inr ⟨rfl, HFIN.out⟩, HNEW⟩
        case measure => simp [intOf]
      · have hjl : j < l.length := by omega
        have hji : ((j : Int) == (l.length : Int)) = false := by rw [beq_eq_false_iff_ne]; omega
        have hz : j < (⟨l.toArray⟩ : ByteArray).size := by rw [z]; exact hjl
        obtain ⟨x, hx⟩ : ∃ x : UInt8, (⟨l.toArray⟩ : ByteArray)[j]'hz = x := ⟨_, rfl⟩
        have HX : Hid (l[j]'hjl = x) := hx
        by_cases e1 : x = 47
        · have HCN : Hid (CutI l (j + 1) (j + 1) (ps ++ [seg])) := by
            refine ⟨by omega, by omega, ?_, by simp⟩
            rw [HCI.out.pc, cut_here l f j hfj hjl (HX.out.trans e1) HCI.out.no, HSEG.out]
            simp
          subst e1
          go_wp2_with (at_builtin; refine reg.wpList_append rfl rfl rfl rfl rfl HRUN.out ?_)
          go_roundw
          case rel => exact ⟨j + 1, j + 1, ps ++ [seg], _, _, _, by omega, by go_num, by go_num, rfl, .inl HCN.out, HNEW⟩
          case measure => simp [intOf]; omega
        · have HCN : Hid (CutI l (j + 1) f ps) := by
            refine ⟨by omega, by omega, HCI.out.pc, ?_⟩
            rw [cut_more l f j hfj hjl, HX.out]
            intro hm
            rcases List.mem_append.1 hm with h | h
            · exact HCI.out.no h
            · exact e1 (List.mem_singleton.1 h).symm
          obtain ⟨cc, hc⟩ : ∃ c : Nat, x.toNat = c := ⟨_, rfl⟩
          have n1 : cc ≠ 47 := fun h => e1 (UInt8.toNat_inj.1 (hc.trans h))
          have n3 : ((cc : Int) == 47) = false := by rw [beq_eq_false_iff_ne]; omega
          clear e1
          go_wp2_with fail
          go_roundw
          case rel => exact ⟨j + 1, f, ps, _, _, _, by omega, by go_num, rfl, rfl, .inl HCN.out, HR⟩
          case measure => simp [intOf]; omega
    · obtain rfl : j = l.length + 1 := by omega
      have hps : ps = piecesL l := by
        rcases HC.out with h | h
        · have := h.jl; omega
        · exact h.2
      subst hps
      go_wp2_with fail
      go_ret
      exact ⟨_, rfl, HR.out.1, HR.out.2⟩
set_option maxRecDepth 100000 in
theorem rParts_any (l : List UInt8) (w : World) (hl : l.length ≤ 2000000) :
    Calls Try.prog 99 #[sv l] w fun e w' => ∃ v, e = .returned v ∧ SRow w' w.heap.size v (partsL l) ∧ Below w.heap.size w w' := by
  by_cases h0 : l = []
  · subst h0
    go_enter Try.func99, Try.ntmps99
    go_wp2
    go_ret
    exact ⟨_, rfl, World.ownsRow_nil _ _ _ _, Below.refl _ _⟩
  · have b0 : l.isEmpty = false := by cases l <;> simp_all
    have b0' : (l == []) = false := by rw [beq_eq_false_iff_ne]; exact h0
    have HC := Lib.hid (fun W : World => rCut_any l W hl)
    have HP : Hid (partsL l = piecesL l) := by rw [Hid, partsL, if_neg h0]
    clear h0
    go_enter Try.func99, Try.ntmps99
    go_wp2_with fail
    (with_reducible refine (HC.out _).mono ?_); rintro e w1 ⟨v, rfl, hr, hb⟩
    have HR := Lib.hid hr
    have HB := Lib.hid hb
    clear hr hb
    go_wp2_with fail
    go_ret
    exact ⟨_, rfl, by rw [HP.out]; exact HR.out, HB.out⟩
theorem SRow.set {w : World} {base g n c : Nat} {ys : List (List UInt8)} (h : SRow w base (.slice (some ⟨g, 0, none⟩) n c) ys) (j : Nat) (q : List UInt8) : SRow (w.setCell ⟨g, j, none⟩ (sv q)) base (.slice (some ⟨g, 0, none⟩) n c) (ys.set j q) := by
  obtain ⟨hl, ⟨h1, h2⟩ | ⟨g', c', cur, hv, h2, h3, h4, h5, h6, h7⟩⟩ := h
  · cases h1
  · simp only [Value.slice.injEq, Option.some.injEq, Addr.mk.injEq] at hv
    obtain ⟨⟨rfl, -, -⟩, rfl, rfl⟩ := hv
    refine ⟨by simp, .inr ⟨g, c, cur.setIfInBounds j (sv q), by simp, h2, blk_set h3 j _, by simpa using h4, h5, by simpa using h6, ?_⟩⟩
    rw [List.length_set, Array.toList_setIfInBounds, List.take_set, h7, List.map_set]
end Go.Proofs.Ytifhnpkapgaboaa.path

namespace Go.Proofs.Ytifhnpkapgaboaa.path
open Go.RowKit Go.Shelf
open heap
set_option linter.unusedVariables false

theorem clean_parts (l : List UInt8) : cleanB l = true ↔ (partsL l).length ≤ 8 ∧ l.length ≤ 140 ∧ ∀ p ∈ partsL l, nameE p = 0 := by
  unfold cleanB partsL
  by_cases h : l = []
  · simp [h]
  · simp only [h, decide_false, Bool.false_or, Bool.and_eq_true, decide_eq_true_eq, if_false]
    exact ⟨fun h => ⟨h.1.2, h.2, h.1.1⟩, fun h => ⟨⟨h.2.2, h.1⟩, h.2.1⟩⟩
theorem parts_bd (l : List UInt8) : (partsL l).length ≤ l.length + 1 ∧ ∀ p ∈ partsL l, p.length ≤ l.length := by
  unfold partsL
  split
  · simp
  · exact ⟨(pieces_bd l).1, fun p hp => ((pieces_bd l).2 p hp).1⟩
set_option maxRecDepth 100000 in
set_option maxHeartbeats 1000000 in
theorem rIsClean_any (l : List UInt8) (w : World) (hl : l.length ≤ 2000000) :
    Calls Try.prog 77 #[sv l] w fun e w' => e = .returned (.bool (cleanB l)) ∧ Below w.heap.size w w' := by
  have z := str_size l
  have HP := Lib.hid (fun W : World => rParts_any l W hl)
  have HCB := Lib.hid (clean_parts l)
  have HBD := Lib.hid (parts_bd l)
  generalize hcb : cleanB l = cb at *
  generalize hxs : partsL l = xs at *
  clear hcb hxs
  go_enter Try.func77, Try.ntmps77
  go_wp2_with fail
  (with_reducible refine (HP.out _).mono ?_); rintro e w1 ⟨v, rfl, hr, hb⟩
  obtain ⟨a1, c1, rfl⟩ := own_slice hr
  have HR := Lib.hid hr
  have HB := Lib.hid hb
  have hxl : xs.length ≤ 2000001 := by have := HBD.out.1; omega
  clear hr hb HP
  by_cases h8 : 8 < xs.length
  · obtain rfl : cb = false := by
      cases cb with
      | false => rfl
      | true => have := (HCB.out.1 rfl).1; omega
    have d8 : decide ((8 : Int) < (xs.length : Int)) = true := decide_eq_true (by omega)
    go_wp2_with fail
    go_ret
    exact ⟨rfl, HB.out⟩
  · have d8 : decide ((8 : Int) < (xs.length : Int)) = false := decide_eq_false (by omega)
    by_cases h140 : 140 < l.length
    · obtain rfl : cb = false := by
        cases cb with
        | false => rfl
        | true => have := (HCB.out.1 rfl).2.1; omega
      have d140 : decide ((140 : Int) < (l.length : Int)) = true := decide_eq_true (by omega)
      go_wp2_with fail
      go_ret
      exact ⟨rfl, HB.out⟩
    · have d140 : decide ((140 : Int) < (l.length : Int)) = false := decide_eq_false (by omega)
      go_wp2_with fail
      go_loopw [4] (fun i wr => ∃ j : Nat, j ≤ xs.length ∧ i = .int .i64 j ∧ Hid ((∀ k q, k < j → xs[k]? = some q → nameE q = 0) ∧ w1 = wr)) (fun i _ => xs.length - (intOf i).toNat)
      case atStart => exact ⟨0, by omega, rfl, fun k q hk => by omega, rfl⟩
      case round =>
        obtain ⟨j, hj, rfl, HH⟩ := hrel
        obtain rfl := HH.out.2
        by_cases hlt : j < xs.length
        · rcases HR.out.cells with ⟨-, hw⟩ | ⟨g1, c', hv', hgl1, hc1, hc2, hcell1⟩
          · rw [hw] at hlt; simp at hlt
          · simp only [Value.slice.injEq] at hv'
            obtain ⟨rfl, -, rfl⟩ := hv'
            obtain ⟨p, hp⟩ : ∃ p, xs[j]? = some p := ⟨_, List.getElem?_eq_getElem hlt⟩
            have hcp1 := hcell1 j p hp
            have hji : (j : Int) < xs.length := by omega
            have hpl := HBD.out.2 p (List.mem_of_getElem? hp)
            have HNM := Lib.hid (fun W : World => rName_any p W (by omega))
            have HPJ := Lib.hid hp
            obtain ⟨er, her⟩ : ∃ er : Int, nameE p = er := ⟨_, rfl⟩
            have HER := Lib.hid her
            rw [her] at HNM
            unfold maxLen at hc2
            clear hcell1 hp her hpl
            go_wp2_with fail
            (with_reducible refine (HNM.out _).mono ?_); rintro e w2 ⟨rfl, rfl⟩
            by_cases he : er = 0
            · subst he
              go_wp2_with fail
              go_roundw
              case rel =>
                refine ⟨j + 1, by omega, by go_num, fun k q hk hkq => ?_, by first | rfl | trivial⟩
                rcases Nat.lt_succ_iff_lt_or_eq.1 hk with h | h
                · exact HH.out.1 k q h hkq
                · rw [h, HPJ.out] at hkq
                  cases hkq
                  exact HER.out
              case measure => simp [intOf]; omega
            · have hne : (er != 0) = true := by rw [bne_iff_ne]; exact he
              obtain rfl : cb = false := by
                cases cb with
                | false => rfl
                | true => exact absurd (HER.out.symm.trans ((HCB.out.1 rfl).2.2 p (List.mem_of_getElem? HPJ.out))) he
              clear he
              go_wp2_with fail
              go_ret
              exact ⟨rfl, HB.out⟩
        · obtain rfl : j = xs.length := by omega
          obtain rfl : cb = true := HCB.out.2 ⟨by omega, by omega, fun p hp => by
            obtain ⟨k, hk⟩ := List.mem_iff_getElem?.1 hp
            exact HH.out.1 k p (by have := (List.getElem?_eq_some_iff.1 hk).1; exact this) hk⟩
          go_wp2_with fail
          go_ret
          exact ⟨rfl, HB.out⟩
theorem pre_iff (s t : List UInt8) : Lib.hasPrefix s (t ++ [47]) = true ↔ s.take t.length = t ∧ s[t.length]? = some 47 := by
  unfold Lib.hasPrefix
  rw [List.isPrefixOf_iff_prefix]
  constructor
  · rintro ⟨r, rfl⟩
    simp
  · rintro ⟨h1, h2⟩
    refine ⟨s.drop (t.length + 1), ?_⟩
    conv => rhs; rw [← List.take_append_drop (t.length + 1) s, List.take_add_one, h1, h2]
    simp
set_option maxRecDepth 100000 in
set_option maxHeartbeats 1000000 in
theorem rBelow_any (s t : List UInt8) (w : World) (hs : s.length ≤ 2000000) (ht : t.length ≤ 2000000) :
    Calls Try.prog 102 #[sv s, sv t] w fun e w' => e = .returned (.bool (belowB s t)) ∧ w = w' := by
  have zs := str_size s
  have zt := str_size t
  by_cases h0 : t = []
  · have HV : Hid (belowB s t = true) := by simp [Hid, belowB, h0]
    rw [HV.out]
    subst h0
    go_enter Try.func102, Try.ntmps102
    go_wp2
    go_ret
    exact ⟨rfl, rfl⟩
  · have b0 : t.isEmpty = false := by cases t <;> simp_all
    have b0' : (t == []) = false := by rw [beq_eq_false_iff_ne]; exact h0
    by_cases h1 : s = t
    · have HV : Hid (belowB s t = true) := by simp [Hid, belowB, h1]
      rw [HV.out]
      subst h1
      clear h0
      go_enter Try.func102, Try.ntmps102
      go_wp2
      go_ret
      exact ⟨rfl, rfl⟩
    · have b1 : (s == t) = false := by rw [beq_eq_false_iff_ne]; exact h1
      have HV : Hid (belowB s t = Lib.hasPrefix s (t ++ [47])) := by simp [Hid, belowB, h0, h1]
      have HI := Lib.hid (pre_iff s t)
      rw [HV.out]
      generalize Lib.hasPrefix s (t ++ [47]) = r at *
      clear h0 h1 HV
      by_cases h2 : t.length < s.length
      · have d2 : decide ((t.length : Int) < (s.length : Int)) = true := decide_eq_true (by omega)
        have hex : (⟨s.toArray⟩ : ByteArray).extract 0 t.length = ⟨(s.take t.length).toArray⟩ := by rw [cut_str]; simp
        have hz : t.length < (⟨s.toArray⟩ : ByteArray).size := by rw [zs]; exact h2
        obtain ⟨x, hx⟩ : ∃ x : UInt8, (⟨s.toArray⟩ : ByteArray)[t.length]'hz = x := ⟨_, rfl⟩
        have HX : Hid (s[t.length]? = some x) := by rw [Hid, List.getElem?_eq_getElem h2]; exact congrArg some hx
        by_cases h3 : s.take t.length = t
        · have b3 : (s.take t.length == t) = true := by rw [beq_iff_eq]; exact h3
          have HI2 : Hid (r = true ↔ x = 47) := by rw [Hid, HI.out, HX.out]; simp [h3]
          generalize s.take t.length = s2 at *
          clear HI h3
          obtain ⟨c, hc⟩ : ∃ c : Nat, x.toNat = c := ⟨_, rfl⟩
          by_cases e1 : x = 47
          · obtain rfl : r = true := HI2.out.2 e1
            have n1 : c = 47 := by rw [← hc, e1]; rfl
            subst n1
            clear e1
            go_enter Try.func102, Try.ntmps102
            go_wp2
            go_ret
            exact ⟨rfl, rfl⟩
          · obtain rfl : r = false := by
              cases r with
              | false => rfl
              | true => exact absurd (HI2.out.1 rfl) e1
            have n1 : c ≠ 47 := fun h => e1 (UInt8.toNat_inj.1 (hc.trans h))
            have n3 : ((c : Int) == 47) = false := by rw [beq_eq_false_iff_ne]; omega
            clear e1
            go_enter Try.func102, Try.ntmps102
            go_wp2
            go_ret
            exact ⟨rfl, rfl⟩
        · have b3 : (s.take t.length == t) = false := by rw [beq_eq_false_iff_ne]; exact h3
          obtain rfl : r = false := by
            cases r with
            | false => rfl
            | true => exact absurd (HI.out.1 rfl).1 h3
          generalize s.take t.length = s2 at *
          clear HI h3
          go_enter Try.func102, Try.ntmps102
          go_wp2
          go_ret
          exact ⟨rfl, rfl⟩
      · have d2 : decide ((t.length : Int) < (s.length : Int)) = false := decide_eq_false (by omega)
        obtain rfl : r = false := by
          cases r with
          | false => rfl
          | true => have := (List.getElem?_eq_some_iff.1 (HI.out.1 rfl).2).1; omega
        clear HI
        go_enter Try.func102, Try.ntmps102
        go_wp2
        go_ret
        exact ⟨rfl, rfl⟩
end Go.Proofs.Ytifhnpkapgaboaa.path
