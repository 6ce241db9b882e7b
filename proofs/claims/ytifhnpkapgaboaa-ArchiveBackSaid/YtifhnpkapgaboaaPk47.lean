/-
  Proved: what the statements' functions on images do: copied, compared. Conditions: as each theorem says.
-/
import Derived.Test.YtifhnpkapgaboaaPk46
namespace Go.Proofs.Ytifhnpkapgaboaa.arch
open Go.RowKit
open heap
open path (sv str_size)
set_option linter.unusedVariables false
set_option linter.unusedSimpArgs false
set_option maxRecDepth 100000

theorem SameEntries_two (es : List Ent) (A B : Option Addr) (c d : Nat) (w : World) (h : EIn w A c es) (hg : EIn w B d es) (hc : c ≤ 9223372036854775807) (hd : d ≤ 9223372036854775807) :
    Calls Try.prog 22 #[.slice A es.length c, .slice B es.length d] w fun e w' => e = .returned (.bool true) ∧ Below w.heap.size w w' := by
  have H := Lib.hid h
  have HG := Lib.hid hg
  have hcl := h.1
  have hdl := hg.1
  clear h hg
  go_enter Try.func22, Try.ntmps22
  go_wp2_with fail
  go_loopg [5] es.length (fun kk v3 wr => ∃ i : Nat, i + kk = es.length ∧ v3 = .int .i64 i ∧ Hid (Below w.heap.size w wr))
  case atStart => exact ⟨0, by omega, rfl, Below.refl _ _⟩
  case round =>
    obtain ⟨i, hik, rfl, HB⟩ := hrel
    by_cases hlt : i < es.length
    · cases gk with
      | zero => omega
      | succ gk =>
      have hltI : (i : Int) < (es.length : Int) := by omega
      obtain ⟨e, he⟩ : ∃ e, es[i]? = some e := ⟨_, List.getElem?_eq_getElem hlt⟩
      rcases H.out.2 with rfl | ⟨b, o, rfl, hb⟩
      · simp at hlt
      rcases HG.out.2 with rfl | ⟨g, p, rfl, hg⟩
      · simp at hlt
      obtain ⟨x0, x1, x2, x3⟩ := hb.below HB.out i e he
      obtain ⟨y0, y1, y2, y3⟩ := hg.below HB.out i e he
      clear hb hg he
      go_wp2_with fail
      refine reg.region_each (by kernel_rfl) reg.Ext (fun ri v w' => match ri with
          | 0 => v = .slice (some ⟨b, o, none⟩) es.length c
          | 1 => v = .int .i64 i
          | 2 => v = .pointer (some ⟨b, o + i * 4, none⟩)
          | 3 => v = entV e
          | 4 => v = .slice (some ⟨g, p, none⟩) es.length d
          | 5 => v = .int .i64 i
          | 6 => v = .pointer (some ⟨g, p + i * 4, none⟩)
          | 7 => v = entV e
          | 8 => v = .bool false
          | _ => True) reg.Ext.refl reg.Ext.trans ?_ (by kernel_rfl) ?_ ?_
      ·
        intro i v w1 w2 h hx
        rcases i with _|_|_|_|_|_|_|_|_|i
        · exact h
        · exact h
        · exact h
        · exact h
        · exact h
        · exact h
        · exact h
        · exact h
        · exact h
        · trivial
      ·
        refine ⟨?_, ?_, ?_, ?_, ?_, ?_, ?_, ?_, ?_, trivial⟩
        · -- 0: slot 17 := Op.move t0
          intro ra w' hx hs
          have s0 : ra.eval (.tmp 0) = .slice (some ⟨b, o, none⟩) es.length c := hs.1
          clear hs
          have x0 := hx.cell x0
          have x1 := hx.cell x1
          have x2 := hx.cell x2
          have x3 := hx.cell x3
          have y0 := hx.cell y0
          have y1 := hx.cell y1
          have y2 := hx.cell y2
          have y3 := hx.cell y3
          change Oper.wp _ _ ra w' _ _
          refine reg.wp_value (v := .slice (some ⟨b, o, none⟩) es.length c) (w' := w') ?_ ⟨_, rfl, reg.Ext.refl _, rfl⟩
          intro ρ rc rf rg re
          rw [re] at s0
          simp [execOp, go_sem, rc, rf, rg, s0] <;> first | omega | rfl | decide
        · -- 1: slot 18 := Op.move t5
          intro ra w' hx hs
          have s5 : ra.eval (.tmp 5) = .int .i64 i := hs.1
          clear hs
          have x0 := hx.cell x0
          have x1 := hx.cell x1
          have x2 := hx.cell x2
          have x3 := hx.cell x3
          have y0 := hx.cell y0
          have y1 := hx.cell y1
          have y2 := hx.cell y2
          have y3 := hx.cell y3
          change Oper.wp _ _ ra w' _ _
          refine reg.wp_value (v := .int .i64 i) (w' := w') ?_ ⟨_, rfl, reg.Ext.refl _, rfl⟩
          intro ρ rc rf rg re
          rw [re] at s5
          simp [execOp, go_sem, rc, rf, rg, s5] <;> first | omega | rfl | decide
        · -- 2: slot 19 := Op.indexAddr 22 t17 t18
          intro ra w' hx hs
          have s17 : ra.eval (.tmp 17) = .slice (some ⟨b, o, none⟩) es.length c := hs.1
          have s18 : ra.eval (.tmp 18) = .int .i64 i := hs.2.1
          clear hs
          have x0 := hx.cell x0
          have x1 := hx.cell x1
          have x2 := hx.cell x2
          have x3 := hx.cell x3
          have y0 := hx.cell y0
          have y1 := hx.cell y1
          have y2 := hx.cell y2
          have y3 := hx.cell y3
          change Oper.wp _ _ ra w' _ _
          refine reg.wp_value (v := .pointer (some ⟨b, o + i * 4, none⟩)) (w' := w') ?_ ⟨_, rfl, reg.Ext.refl _, rfl⟩
          intro ρ rc rf rg re
          rw [re] at s17 s18
          simp [execOp, go_sem, rc, rf, rg, s17, s18, hltI] <;> first | omega | rfl | decide
        · -- 3: slot 20 := Op.load 52 t19
          intro ra w' hx hs
          have s19 : ra.eval (.tmp 19) = .pointer (some ⟨b, o + i * 4, none⟩) := hs.1
          clear hs
          have x0 := hx.cell x0
          have x1 := hx.cell x1
          have x2 := hx.cell x2
          have x3 := hx.cell x3
          have y0 := hx.cell y0
          have y1 := hx.cell y1
          have y2 := hx.cell y2
          have y3 := hx.cell y3
          change Oper.wp _ _ ra w' _ _
          refine reg.wp_value (v := entV e) (w' := w') ?_ ⟨_, rfl, reg.Ext.refl _, rfl⟩
          intro ρ rc rf rg re
          rw [re] at s19
          simp [execOp, go_sem, rc, rf, rg, s19, x0, x1, x2, x3] <;> first | omega | rfl | decide
        · -- 4: slot 21 := Op.move t1
          intro ra w' hx hs
          have s1 : ra.eval (.tmp 1) = .slice (some ⟨g, p, none⟩) es.length d := hs.1
          clear hs
          have x0 := hx.cell x0
          have x1 := hx.cell x1
          have x2 := hx.cell x2
          have x3 := hx.cell x3
          have y0 := hx.cell y0
          have y1 := hx.cell y1
          have y2 := hx.cell y2
          have y3 := hx.cell y3
          change Oper.wp _ _ ra w' _ _
          refine reg.wp_value (v := .slice (some ⟨g, p, none⟩) es.length d) (w' := w') ?_ ⟨_, rfl, reg.Ext.refl _, rfl⟩
          intro ρ rc rf rg re
          rw [re] at s1
          simp [execOp, go_sem, rc, rf, rg, s1] <;> first | omega | rfl | decide
        · -- 5: slot 22 := Op.move t5
          intro ra w' hx hs
          have s5 : ra.eval (.tmp 5) = .int .i64 i := hs.1
          clear hs
          have x0 := hx.cell x0
          have x1 := hx.cell x1
          have x2 := hx.cell x2
          have x3 := hx.cell x3
          have y0 := hx.cell y0
          have y1 := hx.cell y1
          have y2 := hx.cell y2
          have y3 := hx.cell y3
          change Oper.wp _ _ ra w' _ _
          refine reg.wp_value (v := .int .i64 i) (w' := w') ?_ ⟨_, rfl, reg.Ext.refl _, rfl⟩
          intro ρ rc rf rg re
          rw [re] at s5
          simp [execOp, go_sem, rc, rf, rg, s5] <;> first | omega | rfl | decide
        · -- 6: slot 23 := Op.indexAddr 22 t21 t22
          intro ra w' hx hs
          have s21 : ra.eval (.tmp 21) = .slice (some ⟨g, p, none⟩) es.length d := hs.1
          have s22 : ra.eval (.tmp 22) = .int .i64 i := hs.2.1
          clear hs
          have x0 := hx.cell x0
          have x1 := hx.cell x1
          have x2 := hx.cell x2
          have x3 := hx.cell x3
          have y0 := hx.cell y0
          have y1 := hx.cell y1
          have y2 := hx.cell y2
          have y3 := hx.cell y3
          change Oper.wp _ _ ra w' _ _
          refine reg.wp_value (v := .pointer (some ⟨g, p + i * 4, none⟩)) (w' := w') ?_ ⟨_, rfl, reg.Ext.refl _, rfl⟩
          intro ρ rc rf rg re
          rw [re] at s21 s22
          simp [execOp, go_sem, rc, rf, rg, s21, s22, hltI] <;> first | omega | rfl | decide
        · -- 7: slot 24 := Op.load 52 t23
          intro ra w' hx hs
          have s23 : ra.eval (.tmp 23) = .pointer (some ⟨g, p + i * 4, none⟩) := hs.1
          clear hs
          have x0 := hx.cell x0
          have x1 := hx.cell x1
          have x2 := hx.cell x2
          have x3 := hx.cell x3
          have y0 := hx.cell y0
          have y1 := hx.cell y1
          have y2 := hx.cell y2
          have y3 := hx.cell y3
          change Oper.wp _ _ ra w' _ _
          refine reg.wp_value (v := entV e) (w' := w') ?_ ⟨_, rfl, reg.Ext.refl _, rfl⟩
          intro ρ rc rf rg re
          rw [re] at s23
          simp [execOp, go_sem, rc, rf, rg, s23, y0, y1, y2, y3] <;> first | omega | rfl | decide
        · -- 8: slot 25 := Op.binOp BinOp.neq 52 t20 t24 52
          intro ra w' hx hs
          have s20 : ra.eval (.tmp 20) = entV e := hs.1
          have s24 : ra.eval (.tmp 24) = entV e := hs.2.1
          clear hs
          have x0 := hx.cell x0
          have x1 := hx.cell x1
          have x2 := hx.cell x2
          have x3 := hx.cell x3
          have y0 := hx.cell y0
          have y1 := hx.cell y1
          have y2 := hx.cell y2
          have y3 := hx.cell y3
          change Oper.wp _ _ ra w' _ _
          refine reg.wp_value (v := .bool false) (w' := w') ?_ ⟨_, rfl, reg.Ext.refl _, rfl⟩
          intro ρ rc rf rg re
          rw [re] at s20 s24
          simp [execOp, go_sem, rc, rf, rg, s20, s24, neql_ent] <;> first | omega | rfl | decide
      intro rV w' hx hf
      have ve0 : rV 0 = .slice (some ⟨b, o, none⟩) es.length c := hf 0 (by decide)
      have ve1 : rV 1 = .int .i64 i := hf 1 (by decide)
      have ve2 : rV 2 = .pointer (some ⟨b, o + i * 4, none⟩) := hf 2 (by decide)
      have ve3 : rV 3 = entV e := hf 3 (by decide)
      have ve4 : rV 4 = .slice (some ⟨g, p, none⟩) es.length d := hf 4 (by decide)
      have ve5 : rV 5 = .int .i64 i := hf 5 (by decide)
      have ve6 : rV 6 = .pointer (some ⟨g, p + i * 4, none⟩) := hf 6 (by decide)
      have ve7 : rV 7 = entV e := hf 7 (by decide)
      have ve8 : rV 8 = .bool false := hf 8 (by decide)
      clear hf
      simp only [List.zipIdx_cons, List.zipIdx_nil, List.foldl_cons, List.foldl_nil, Act.put, Nat.reduceAdd, List.setIfInBounds_toArray, List.set_cons_succ, List.set_cons_zero, ve0, ve1, ve2, ve3, ve4, ve5, ve6, ve7, ve8]
      clear ve0 ve1 ve2 ve3 ve4 ve5 ve6 ve7 ve8
      clear rV
      go_wp2_with fail
      go_roundg gk
      case rel => exact ⟨i + 1, by omega, by go_num, HB.out.drew.trans (hx.mono (Nat.le_trans HB.out.size (Nat.le_refl _)))⟩
      case measure => omega
    · have hn : ¬ (i : Int) < (es.length : Int) := by omega
      go_wp2_with fail
      go_ret
      exact ⟨rfl, HB.out⟩
theorem SameLayer_two (es : List Ent) (A B : Option Addr) (c d : Nat) (w : World) (h : EIn w A c es) (hg : EIn w B d es) (hc : c ≤ 9223372036854775807) (hd : d ≤ 9223372036854775807) :
    Calls Try.prog 40 #[.agg #[.slice A es.length c], .agg #[.slice B es.length d]] w fun e w' => e = .returned (.bool true) ∧ Below w.heap.size w w' := by
  have HB : Hid (Below w.heap.size w ((w.alloc (.cells #[.slice A es.length c] 24 (0, 0))).alloc (.cells #[.slice B es.length d] 24 (0, 0)))) := ((Below.refl _ _).alloc (Nat.le_refl _) _).alloc (by simp) _
  have HC := Lib.hid (SameEntries_two es A B c d _ (h.below HB.out) (hg.below HB.out) hc hd)
  clear h hg
  go_enter Try.func40, Try.ntmps40
  go_wp2_with fail
  refine HC.out.mono ?_; rintro e w1 ⟨rfl, hb⟩
  have HB2 := Lib.hid (HB.out.trans (hb.mono HB.out.size))
  clear hb HC HB
  go_wp2_with fail
  go_ret
  exact ⟨rfl, HB2.out⟩
theorem SameImage_two (ls : List (List Ent)) (A B : Option Addr) (c d : Nat) (w : World) (h : LIn w A c ls) (hg : LIn w B d ls) (hc : c ≤ 9223372036854775807) (hd : d ≤ 9223372036854775807) :
    Calls Try.prog 17 #[.agg #[.slice A ls.length c], .agg #[.slice B ls.length d]] w fun e w' => e = .returned (.bool true) ∧ Below w.heap.size w w' := by
  have HB : Hid (Below w.heap.size w ((w.alloc (.cells #[.slice A ls.length c] 37 (0, 0))).alloc (.cells #[.slice B ls.length d] 37 (0, 0)))) := ((Below.refl _ _).alloc (Nat.le_refl _) _).alloc (by simp) _
  have HN0 := Lib.hid (blk_old (blk_new w (.cells #[.slice A ls.length c] 37 (0, 0))) (.cells #[.slice B ls.length d] 37 (0, 0)))
  have hn1 := blk_new (w.alloc (.cells #[.slice A ls.length c] 37 (0, 0))) (.cells #[.slice B ls.length d] 37 (0, 0))
  rw [World.size_alloc] at hn1
  have HN1 := Lib.hid hn1
  have HH := Lib.hid (h.below HB.out)
  have HG := Lib.hid (hg.below HB.out)
  have hcl := h.1
  have hdl := hg.1
  clear h hg hn1
  go_enter Try.func17, Try.ntmps17
  go_wp2_with fail
  change Code.wp _ _ _ _ ((w.alloc (.cells #[.slice A ls.length c] 37 (0, 0))).alloc (.cells #[.slice B ls.length d] 37 (0, 0)))
  generalize ((w.alloc (.cells #[.slice A ls.length c] 37 (0, 0))).alloc (.cells #[.slice B ls.length d] 37 (0, 0))) = w1 at *
  go_loopg [5] ls.length (fun kk v3 wr => ∃ i : Nat, i + kk = ls.length ∧ v3 = .int .i64 i ∧ Hid (Below w1.heap.size w1 wr))
  case atStart => exact ⟨0, by omega, rfl, Below.refl _ _⟩
  case round =>
    obtain ⟨i, hik, rfl, HW⟩ := hrel
    have c0 := blk_cell (blk_below HN0.out HW.out) 0
    have c1 := blk_cell (blk_below HN1.out HW.out) 0
    have l0 := blk_lt (blk_below HN0.out HW.out)
    have l1 := blk_lt (blk_below HN1.out HW.out)
    simp only [List.getElem?_toArray, List.getElem?_cons_zero] at c0 c1
    by_cases hlt : i < ls.length
    · cases gk with
      | zero => omega
      | succ gk =>
      have hltI : (i : Int) < (ls.length : Int) := by omega
      obtain ⟨es, he⟩ : ∃ e, ls[i]? = some e := ⟨_, List.getElem?_eq_getElem hlt⟩
      rcases HH.out.2 with rfl | ⟨b, o, rfl, hb⟩
      · simp at hlt
      rcases HG.out.2 with rfl | ⟨g, p, rfl, hg⟩
      · simp at hlt
      obtain ⟨Ai, ci, x0, hx1, hx2⟩ := hb i es he
      obtain ⟨Bi, di, y0, hy1, hy2⟩ := hg i es he
      have x0 := cell_below HW.out x0
      have y0 := cell_below HW.out y0
      have HX := Lib.hid (hx1.below HW.out)
      have HY := Lib.hid (hy1.below HW.out)
      clear hb hg he hx1 hy1
      go_wp2_with fail
      refine reg.region_each (by kernel_rfl) reg.Ext (fun ri v w' => match ri with
          | 0 => v = .pointer (some ⟨w.heap.size, 0, none⟩)
          | 1 => v = .slice (some ⟨b, o, none⟩) ls.length c
          | 2 => v = .int .i64 i
          | 3 => v = .pointer (some ⟨b, o + i, none⟩)
          | 4 => v = .agg #[.slice Ai es.length ci]
          | 5 => v = .pointer (some ⟨w.heap.size + 1, 0, none⟩)
          | 6 => v = .slice (some ⟨g, p, none⟩) ls.length d
          | 7 => v = .int .i64 i
          | 8 => v = .pointer (some ⟨g, p + i, none⟩)
          | 9 => v = .agg #[.slice Bi es.length di]
          | 10 => v = .bool true
          | 11 => v = .bool false
          | _ => True) reg.Ext.refl reg.Ext.trans ?_ (by kernel_rfl) ?_ ?_
      ·
        intro i v w1 w2 h hx
        rcases i with _|_|_|_|_|_|_|_|_|_|_|_|i
        · exact h
        · exact h
        · exact h
        · exact h
        · exact h
        · exact h
        · exact h
        · exact h
        · exact h
        · exact h
        · exact h
        · exact h
        · trivial
      ·
        refine ⟨?_, ?_, ?_, ?_, ?_, ?_, ?_, ?_, ?_, ?_, ?_, ?_, trivial⟩
        · -- 0: slot 20 := Op.fieldAddr 37 t2 0
          intro ra w' hx hs
          have s2 : ra.eval (.tmp 2) = .pointer (some ⟨w.heap.size, 0, none⟩) := hs.1
          clear hs
          have x0 := hx.cell x0
          have y0 := hx.cell y0
          have c0 := hx.cell c0
          have c1 := hx.cell c1
          change Oper.wp _ _ ra w' _ _
          refine reg.wp_value (v := .pointer (some ⟨w.heap.size, 0, none⟩)) (w' := w') ?_ ⟨_, rfl, reg.Ext.refl _, rfl⟩
          intro ρ rc rf rg re
          rw [re] at s2
          simp [execOp, go_sem, rc, rf, rg, s2] <;> first | omega | rfl | decide
        · -- 1: slot 21 := Op.load 35 t20
          intro ra w' hx hs
          have s20 : ra.eval (.tmp 20) = .pointer (some ⟨w.heap.size, 0, none⟩) := hs.1
          clear hs
          have x0 := hx.cell x0
          have y0 := hx.cell y0
          have c0 := hx.cell c0
          have c1 := hx.cell c1
          change Oper.wp _ _ ra w' _ _
          refine reg.wp_value (v := .slice (some ⟨b, o, none⟩) ls.length c) (w' := w') ?_ ⟨_, rfl, reg.Ext.refl _, rfl⟩
          intro ρ rc rf rg re
          rw [re] at s20
          simp [execOp, go_sem, rc, rf, rg, s20, c0] <;> first | omega | rfl | decide
        · -- 2: slot 22 := Op.move t5
          intro ra w' hx hs
          have s5 : ra.eval (.tmp 5) = .int .i64 i := hs.1
          clear hs
          have x0 := hx.cell x0
          have y0 := hx.cell y0
          have c0 := hx.cell c0
          have c1 := hx.cell c1
          change Oper.wp _ _ ra w' _ _
          refine reg.wp_value (v := .int .i64 i) (w' := w') ?_ ⟨_, rfl, reg.Ext.refl _, rfl⟩
          intro ρ rc rf rg re
          rw [re] at s5
          simp [execOp, go_sem, rc, rf, rg, s5] <;> first | omega | rfl | decide
        · -- 3: slot 23 := Op.indexAddr 35 t21 t22
          intro ra w' hx hs
          have s21 : ra.eval (.tmp 21) = .slice (some ⟨b, o, none⟩) ls.length c := hs.1
          have s22 : ra.eval (.tmp 22) = .int .i64 i := hs.2.1
          clear hs
          have x0 := hx.cell x0
          have y0 := hx.cell y0
          have c0 := hx.cell c0
          have c1 := hx.cell c1
          change Oper.wp _ _ ra w' _ _
          refine reg.wp_value (v := .pointer (some ⟨b, o + i, none⟩)) (w' := w') ?_ ⟨_, rfl, reg.Ext.refl _, rfl⟩
          intro ρ rc rf rg re
          rw [re] at s21 s22
          simp [execOp, go_sem, rc, rf, rg, s21, s22, hltI] <;> first | omega | rfl | decide
        · -- 4: slot 24 := Op.load 24 t23
          intro ra w' hx hs
          have s23 : ra.eval (.tmp 23) = .pointer (some ⟨b, o + i, none⟩) := hs.1
          clear hs
          have x0 := hx.cell x0
          have y0 := hx.cell y0
          have c0 := hx.cell c0
          have c1 := hx.cell c1
          change Oper.wp _ _ ra w' _ _
          refine reg.wp_value (v := .agg #[.slice Ai es.length ci]) (w' := w') ?_ ⟨_, rfl, reg.Ext.refl _, rfl⟩
          intro ρ rc rf rg re
          rw [re] at s23
          simp [execOp, go_sem, rc, rf, rg, s23, x0] <;> first | omega | rfl | decide
        · -- 5: slot 25 := Op.fieldAddr 37 t3 0
          intro ra w' hx hs
          have s3 : ra.eval (.tmp 3) = .pointer (some ⟨w.heap.size + 1, 0, none⟩) := hs.1
          clear hs
          have x0 := hx.cell x0
          have y0 := hx.cell y0
          have c0 := hx.cell c0
          have c1 := hx.cell c1
          change Oper.wp _ _ ra w' _ _
          refine reg.wp_value (v := .pointer (some ⟨w.heap.size + 1, 0, none⟩)) (w' := w') ?_ ⟨_, rfl, reg.Ext.refl _, rfl⟩
          intro ρ rc rf rg re
          rw [re] at s3
          simp [execOp, go_sem, rc, rf, rg, s3] <;> first | omega | rfl | decide
        · -- 6: slot 26 := Op.load 35 t25
          intro ra w' hx hs
          have s25 : ra.eval (.tmp 25) = .pointer (some ⟨w.heap.size + 1, 0, none⟩) := hs.1
          clear hs
          have x0 := hx.cell x0
          have y0 := hx.cell y0
          have c0 := hx.cell c0
          have c1 := hx.cell c1
          change Oper.wp _ _ ra w' _ _
          refine reg.wp_value (v := .slice (some ⟨g, p, none⟩) ls.length d) (w' := w') ?_ ⟨_, rfl, reg.Ext.refl _, rfl⟩
          intro ρ rc rf rg re
          rw [re] at s25
          simp [execOp, go_sem, rc, rf, rg, s25, c1] <;> first | omega | rfl | decide
        · -- 7: slot 27 := Op.move t5
          intro ra w' hx hs
          have s5 : ra.eval (.tmp 5) = .int .i64 i := hs.1
          clear hs
          have x0 := hx.cell x0
          have y0 := hx.cell y0
          have c0 := hx.cell c0
          have c1 := hx.cell c1
          change Oper.wp _ _ ra w' _ _
          refine reg.wp_value (v := .int .i64 i) (w' := w') ?_ ⟨_, rfl, reg.Ext.refl _, rfl⟩
          intro ρ rc rf rg re
          rw [re] at s5
          simp [execOp, go_sem, rc, rf, rg, s5] <;> first | omega | rfl | decide
        · -- 8: slot 28 := Op.indexAddr 35 t26 t27
          intro ra w' hx hs
          have s26 : ra.eval (.tmp 26) = .slice (some ⟨g, p, none⟩) ls.length d := hs.1
          have s27 : ra.eval (.tmp 27) = .int .i64 i := hs.2.1
          clear hs
          have x0 := hx.cell x0
          have y0 := hx.cell y0
          have c0 := hx.cell c0
          have c1 := hx.cell c1
          change Oper.wp _ _ ra w' _ _
          refine reg.wp_value (v := .pointer (some ⟨g, p + i, none⟩)) (w' := w') ?_ ⟨_, rfl, reg.Ext.refl _, rfl⟩
          intro ρ rc rf rg re
          rw [re] at s26 s27
          simp [execOp, go_sem, rc, rf, rg, s26, s27, hltI] <;> first | omega | rfl | decide
        · -- 9: slot 29 := Op.load 24 t28
          intro ra w' hx hs
          have s28 : ra.eval (.tmp 28) = .pointer (some ⟨g, p + i, none⟩) := hs.1
          clear hs
          have x0 := hx.cell x0
          have y0 := hx.cell y0
          have c0 := hx.cell c0
          have c1 := hx.cell c1
          change Oper.wp _ _ ra w' _ _
          refine reg.wp_value (v := .agg #[.slice Bi es.length di]) (w' := w') ?_ ⟨_, rfl, reg.Ext.refl _, rfl⟩
          intro ρ rc rf rg re
          rw [re] at s28
          simp [execOp, go_sem, rc, rf, rg, s28, y0] <;> first | omega | rfl | decide
        · -- 10: slot 30 := Op.call { value (Operand.func 40), args := #[t24, t29], argTypes := #[24, 24] }
          intro ra w' hx hs
          have s24 : ra.eval (.tmp 24) = .agg #[.slice Ai es.length ci] := hs.1
          have s29 : ra.eval (.tmp 29) = .agg #[.slice Bi es.length di] := hs.2.1
          clear hs
          have x0 := hx.cell x0
          have y0 := hx.cell y0
          have c0 := hx.cell c0
          have c1 := hx.cell c1
          change Oper.wp _ _ ra w' _ _
          refine reg.wp_call (f := 40) (args := #[.agg #[.slice Ai es.length ci], .agg #[.slice Bi es.length di]]) (w' := w') ?_ ?_
          · intro ρ rc rf rg re
            rw [re] at s24 s29
            simp [execOp, go_sem, rc, rf, rg, s24, s29] <;> first | omega | rfl | decide
          refine (SameLayer_two es Ai Bi ci di w' (HX.out.below ((Below.refl _ wr).drew.trans hx)) (HY.out.below ((Below.refl _ wr).drew.trans hx)) hx2 hy2).mono ?_
          rintro e w2 ⟨rfl, hb⟩
          exact ⟨_, rfl, _, rfl, hb, rfl⟩
        · -- 11: slot 31 := Op.unOp UnOp.not 4 t30
          intro ra w' hx hs
          have s30 : ra.eval (.tmp 30) = .bool true := hs.1
          clear hs
          have x0 := hx.cell x0
          have y0 := hx.cell y0
          have c0 := hx.cell c0
          have c1 := hx.cell c1
          change Oper.wp _ _ ra w' _ _
          refine reg.wp_value (v := .bool false) (w' := w') ?_ ⟨_, rfl, reg.Ext.refl _, rfl⟩
          intro ρ rc rf rg re
          rw [re] at s30
          simp [execOp, go_sem, rc, rf, rg, s30] <;> first | omega | rfl | decide
      intro rV w' hx hf
      have ve0 : rV 0 = .pointer (some ⟨w.heap.size, 0, none⟩) := hf 0 (by decide)
      have ve1 : rV 1 = .slice (some ⟨b, o, none⟩) ls.length c := hf 1 (by decide)
      have ve2 : rV 2 = .int .i64 i := hf 2 (by decide)
      have ve3 : rV 3 = .pointer (some ⟨b, o + i, none⟩) := hf 3 (by decide)
      have ve4 : rV 4 = .agg #[.slice Ai es.length ci] := hf 4 (by decide)
      have ve5 : rV 5 = .pointer (some ⟨w.heap.size + 1, 0, none⟩) := hf 5 (by decide)
      have ve6 : rV 6 = .slice (some ⟨g, p, none⟩) ls.length d := hf 6 (by decide)
      have ve7 : rV 7 = .int .i64 i := hf 7 (by decide)
      have ve8 : rV 8 = .pointer (some ⟨g, p + i, none⟩) := hf 8 (by decide)
      have ve9 : rV 9 = .agg #[.slice Bi es.length di] := hf 9 (by decide)
      have ve10 : rV 10 = .bool true := hf 10 (by decide)
      have ve11 : rV 11 = .bool false := hf 11 (by decide)
      clear hf
      simp only [List.zipIdx_cons, List.zipIdx_nil, List.foldl_cons, List.foldl_nil, Act.put, Nat.reduceAdd, List.setIfInBounds_toArray, List.set_cons_succ, List.set_cons_zero, ve0, ve1, ve2, ve3, ve4, ve5, ve6, ve7, ve8, ve9, ve10, ve11]
      clear ve0 ve1 ve2 ve3 ve4 ve5 ve6 ve7 ve8 ve9 ve10 ve11
      clear rV
      go_wp2_with fail
      go_roundg gk
      case rel => exact ⟨i + 1, by omega, by go_num, HW.out.drew.trans (hx.mono (Nat.le_trans HW.out.size (Nat.le_refl _)))⟩
      case measure => omega
    · have hn : ¬ (i : Int) < (ls.length : Int) := by omega
      go_wp2_with fail
      go_ret
      exact ⟨rfl, HB.out.trans (HW.out.mono HB.out.size)⟩
theorem CopyLayer_any (es : List Ent) (A : Option Addr) (c : Nat) (w : World) (h : EIn w A c es) (hn : es.length ≤ 2932031007400) :
    Calls Try.prog 39 #[.agg #[.slice A es.length c]] w fun e w' => ∃ u, e = .returned (.agg #[u]) ∧ ERow w' w.heap.size u es ∧ Below w.heap.size w w' := by
  have HB : Hid (Below w.heap.size w ((w.alloc (.cells #[.slice A es.length c] 24 (0, 0))).alloc (.cells #[.slice none 0 0] 24 (0, 0)))) := ((Below.refl _ _).alloc (Nat.le_refl _) _).alloc (by simp) _
  have HC := Lib.hid (CopyEntries_any es A c _ (h.below HB.out) hn)
  have hn2 := blk_new (w.alloc (.cells #[.slice A es.length c] 24 (0, 0))) (.cells #[.slice none 0 0] 24 (0, 0))
  rw [World.size_alloc] at hn2
  have HN := Lib.hid hn2
  clear h hn2
  go_enter Try.func39, Try.ntmps39
  go_wp2_with fail
  refine HC.out.mono ?_; rintro e w1 ⟨g, cap, rfl, hr, hb⟩
  have hn2 := blk_below HN.out hb
  have HR := Lib.hid hr
  have HB2 := Lib.hid (HB.out.trans (hb.mono HB.out.size))
  clear hr hb HC HB
  have c2 := blk_cell hn2 0
  have f2 := blk_free hn2 0
  have l2 := blk_lt hn2
  simp only [List.getElem?_toArray, List.getElem?_cons_zero] at c2
  have k2 := blk_cell (blk_set hn2 0 (.slice (some ⟨g, 0, none⟩) es.length cap)) 0
  simp only [List.setIfInBounds_toArray, List.set_cons_zero, List.getElem?_toArray, List.getElem?_cons_zero] at k2
  go_wp2_with fail
  refine bodyPost_ret (v := .agg #[.slice (some ⟨g, 0, none⟩) es.length cap]) (by simp [results, Try.results39, go_sem, k2]) rfl ?_
  refine ⟨_, rfl, ?_, HB2.out.setCell (by simp) _⟩
  refine ERow.base (HR.out.turned ((Turned.refl [w.heap.size + 1] _).setCell (p := ⟨w.heap.size + 1, 0, none⟩) (by simp) (.slice (some ⟨g, 0, none⟩) es.length cap)) (fun k hk hm => ?_)) (by simp; omega)
  have k1 := (HR.out.lt k hk).1
  simp at hm k1
  omega
/-- Which blocks an operation of the round's region turns. -/
def cpH (b3 : Nat) (v : Value) (j : Nat) : List Nat := if j = 9 then v.ownBlock.toList else if j = 11 then [b3] else []
theorem cpH_mem {b3 : Nat} {v : Value} {j b : Nat} (h : b ∈ cpH b3 v j) : (j = 9 ∧ b ∈ v.ownBlock.toList) ∨ (j = 11 ∧ b = b3) := by
  unfold cpH at h
  split at h
  · exact .inl ⟨by assumption, h⟩
  · split at h
    · exact .inr ⟨by assumption, by simpa using h⟩
    · simp at h
theorem cpH_sub {b3 : Nat} {v : Value} {j b : Nat} (h : b ∈ cpH b3 v j) : b ∈ b3 :: v.ownBlock.toList := by
  rcases cpH_mem h with ⟨_, hb⟩ | ⟨_, rfl⟩
  · simp [hb]
  · simp
set_option maxHeartbeats 4000000 in
theorem CopyImage_any (ls : List (List Ent)) (A : Option Addr) (c : Nat) (w : World) (h : LIn w A c ls) (hcm : c ≤ 9223372036854775807) (hn : ls.length ≤ 5864062014800) (hes : ∀ es ∈ ls, es.length ≤ 2932031007400) :
    Calls Try.prog 16 #[.agg #[.slice A ls.length c]] w fun e w' => ∃ v vs, e = .returned (.agg #[v]) ∧ LRow w' w.heap.size v ls vs ∧ Below w.heap.size w w' := by
  have H0 := Lib.hid (blk_old (blk_old (blk_new w (.cells #[.slice A ls.length c] 37 (0, 0))) (.cells #[.slice none 0 0] 37 (0, 0))) (.cells #[.slice none 0 0] 37 (0, 0)))
  have h1 := blk_old (blk_new (w.alloc (.cells #[.slice A ls.length c] 37 (0, 0))) (.cells #[.slice none 0 0] 37 (0, 0))) (.cells #[.slice none 0 0] 37 (0, 0))
  have h2 := blk_new ((w.alloc (.cells #[.slice A ls.length c] 37 (0, 0))).alloc (.cells #[.slice none 0 0] 37 (0, 0))) (.cells #[.slice none 0 0] 37 (0, 0))
  rw [World.size_alloc, World.size_alloc] at h2
  rw [World.size_alloc] at h1
  have H1 := Lib.hid h1
  have H2 := Lib.hid h2
  have HB : Hid (Below w.heap.size w (((w.alloc (.cells #[.slice A ls.length c] 37 (0, 0))).alloc (.cells #[.slice none 0 0] 37 (0, 0))).alloc (.cells #[.slice none 0 0] 37 (0, 0)))) := (((Below.refl _ _).alloc (Nat.le_refl _) _).alloc (by simp) _).alloc (by simp; omega) _
  have HL := Lib.hid h
  have hlc := h.1
  have HES := Lib.hid hes
  clear h h1 h2 hes
  go_enter Try.func16, Try.ntmps16
  go_wp2_with fail
  change Code.wp _ _ _ _ (((w.alloc (.cells #[.slice A ls.length c] 37 (0, 0))).alloc (.cells #[.slice none 0 0] 37 (0, 0))).alloc (.cells #[.slice none 0 0] 37 (0, 0)))
  generalize (((w.alloc (.cells #[.slice A ls.length c] 37 (0, 0))).alloc (.cells #[.slice none 0 0] 37 (0, 0))).alloc (.cells #[.slice none 0 0] 37 (0, 0))) = w1 at *
  go_loopg [4] ls.length (fun kk v4 wr => ∃ (i : Nat) (v : Value) (vs : List Value), i + kk = ls.length ∧ v4 = .int .i64 i ∧ Hid (wr.heap[w.heap.size]? = some (.cells #[.slice A ls.length c] 37 (0, 0))) ∧ Hid (wr.heap[w.heap.size + 1]? = some (.cells #[.slice none 0 0] 37 (0, 0))) ∧ Hid (wr.heap[w.heap.size + 1 + 1]? = some (.cells #[v] 37 (0, 0))) ∧ Hid (LRow wr (w.heap.size + 3) v (ls.take i) vs) ∧ Hid (Below w.heap.size w wr))
  case atStart => exact ⟨0, .slice none 0 0, [], by omega, rfl, H0, H1, H2, LRow.nil _ _, HB⟩
  case round =>
    clear H0 H1 H2 HB
    obtain ⟨i, v, vs, hik, rfl, H0, H1, H2, HR, HB⟩ := hrel
    have htk : (ls.take i).length = i := by rw [List.length_take]; omega
    obtain ⟨Av, gv, cv, hv, -⟩ := HR.out.slice
    rw [htk] at hv
    subst hv
    have c0 := blk_cell H0.out 0
    have l0 := blk_lt H0.out
    have l2 := blk_lt H2.out
    simp only [List.getElem?_toArray, List.getElem?_cons_zero] at c0
    by_cases hlt : i < ls.length
    · cases gk with
      | zero => omega
      | succ gk =>
      have hltI : (i : Int) < (ls.length : Int) := by omega
      obtain ⟨es, he⟩ : ∃ e, ls[i]? = some e := ⟨_, List.getElem?_eq_getElem hlt⟩
      rcases HL.out.2 with rfl | ⟨b, o, rfl, hb⟩
      · simp at hlt
      obtain ⟨Ai, ci, x0, hx1, hx2⟩ := hb i es he
      have hxb : b < w.heap.size := World.block_lt_of_cell? _ _ x0
      have x0 := cell_below HB.out x0
      have hen := HES.out es (List.mem_of_getElem? he)
      have HTK : Hid (ls.take i ++ [es] = ls.take (i + 1)) := by unfold Hid; rw [List.take_add_one, he]; rfl
      have HX0 := Lib.hid hx1
      clear hb he hx1
      have hvm : ∀ g ∈ (Value.slice Av i cv).ownBlock.toList, w.heap.size + 3 ≤ g ∧ g < wr.heap.size := fun g hg => ⟨(HR.out.lt _ (List.mem_cons_self ..) g hg).1, (HR.out.lt _ (List.mem_cons_self ..) g hg).2.1⟩
      have FB : ∀ j, j ≠ 11 → w.heap.size + 1 + 1 ∉ cpH (w.heap.size + 1 + 1) (.slice Av i cv) j := fun j hj hm => by
        rcases cpH_mem hm with ⟨k1, k2⟩ | ⟨k1, k2⟩
        · have := (hvm _ k2).1; omega
        · exact hj k1
      have FN : ∀ j g, wr.heap.size ≤ g → g ∉ cpH (w.heap.size + 1 + 1) (.slice Av i cv) j := fun j g hgl hm => by
        rcases cpH_mem hm with ⟨k1, k2⟩ | ⟨k1, k2⟩
        · have := (hvm _ k2).2; omega
        · omega
      have FV : ∀ j, j ≠ 9 → ∀ u ∈ Value.slice Av i cv :: vs, ∀ g ∈ u.ownBlock.toList, g ∉ cpH (w.heap.size + 1 + 1) (.slice Av i cv) j := fun j hj u hu g hg hm => by
        have g1 := (HR.out.lt u hu g hg).1
        rcases cpH_mem hm with ⟨k1, k2⟩ | ⟨k1, k2⟩
        · exact hj k1
        · omega
      have FI : ∀ a : Addr, a.block < w.heap.size + 2 → a.block ∉ (w.heap.size + 1 + 1) :: (Value.slice Av i cv).ownBlock.toList := fun a ha hm => by
        rcases List.mem_cons.1 hm with e | hm
        · omega
        · have := (hvm _ hm).1; omega
      have HBX : ∀ w', Turned ((w.heap.size + 1 + 1) :: (Value.slice Av i cv).ownBlock.toList) wr w' → Below w.heap.size w w' := fun w' hx => HB.out.trans (hx.below HB.out.size (fun k hk => by
        rcases List.mem_cons.1 hk with e | hk
        · omega
        · have := (hvm _ hk).1; omega))
      go_upto_region 5 with fail
      refine reg.region_eachG (by kernel_rfl) ((fun rj w1 w2 => heap.Turned (cpH (w.heap.size + 1 + 1) (.slice Av i cv) rj) w1 w2)) (fun w' => Turned ((w.heap.size + 1 + 1) :: (Value.slice Av i cv).ownBlock.toList) wr w') (fun ri v w' => match ri with
          | 0 => v = .pointer (some ⟨w.heap.size + 1 + 1, 0, none⟩)
          | 1 => v = .slice Av i cv
          | 2 => v = .pointer (some ⟨w.heap.size, 0, none⟩)
          | 3 => v = .slice (some ⟨b, o, none⟩) ls.length c
          | 4 => v = .int .i64 i
          | 5 => v = .pointer (some ⟨b, o + i, none⟩)
          | 6 => v = .agg #[.slice Ai es.length ci]
          | 7 => ∃ u, v = .agg #[u] ∧ ERow w' wr.heap.size u es
          | 8 => ∃ h1 u, v = .slice (some ⟨h1, 0, none⟩) 1 1 ∧ wr.heap.size ≤ h1 ∧ w'.heap[h1]? = some (.cells #[u] 24 (0, 0)) ∧ ERow w' wr.heap.size u es
          | 9 => ∃ g cap u, v = .slice (some ⟨g, 0, none⟩) (i + 1) cap ∧ LRow w' (w.heap.size + 3) v (ls.take (i + 1)) (vs ++ [u])
          | 10 => v = .pointer (some ⟨w.heap.size + 1 + 1, 0, none⟩)
          | 11 => ∃ x vs', w'.heap[w.heap.size + 1 + 1]? = some (.cells #[x] 37 (0, 0)) ∧ LRow w' (w.heap.size + 3) x (ls.take (i + 1)) vs'
          | _ => True) (fun rk w' => match rk with
          | 9 => LRow w' (w.heap.size + 3) (.slice Av i cv) (ls.take i) vs
          | 11 => w'.heap[w.heap.size + 1 + 1]? = some (.cells #[.slice Av i cv] 37 (0, 0))
          | _ => True) ?_ ?_ ?_ ?_ ?_ (by kernel_rfl) ?_ ?_
      · exact (Turned.refl _ _).drew
      ·
        intro k
        split <;> first | trivial | (first | exact HR.out.low (Turned.refl [] _).drew (by simp) | exact H2.out)
      ·
        intro j w1 w2 h hx
        exact h.trans (hx.mono (fun x hm => cpH_sub hm))
      ·
        intro j i v w1 w2 hij hj hr h hx
        rcases i with _|_|_|_|_|_|_|_|_|_|_|_|i
        · exact h
        · exact h
        · exact h
        · exact h
        · exact h
        · exact h
        · exact h
        · (obtain ⟨u, k1, k2⟩ := h; exact ⟨u, k1, k2.turned hx (fun g hg' => FN _ g (k2.lt g hg').1)⟩)
        · (obtain ⟨h1, u, k1, k2, k3, k4⟩ := h; exact ⟨h1, u, k1, k2, hx.kept k3 (FN _ h1 k2), k4.turned hx (fun g hg' => FN _ g (k4.lt g hg').1)⟩)
        · (obtain ⟨g, cap, u, k1, k2⟩ := h; exact ⟨g, cap, u, k1, k2.turned hx (fun x hx' g' hg' hm => by have k3 := (k2.lt x hx' g' hg').1; rcases cpH_mem hm with ⟨m1, m2⟩ | ⟨m1, m2⟩ <;> first | exact hij m1.symm | omega)⟩)
        · exact h
        · exact (reg.last_no (by kernel_rfl) hij hj hr).elim
        · trivial
      ·
        intro j k w1 w2 hkj h hx
        split at h <;> first | exact h | exact LRow.turned h hx (FV _ hkj.symm) | exact hx.kept h (FB _ hkj.symm)
      ·
        refine ⟨?_, ?_, ?_, ?_, ?_, ?_, ?_, ?_, ?_, ?_, ?_, ?_, trivial⟩
        · -- 0: slot 12 := Op.fieldAddr 37 t3 0
          intro ra w' hx hg hs
          have s3 : ra.eval (.tmp 3) = .pointer (some ⟨w.heap.size + 1 + 1, 0, none⟩) := hs.1
          clear hs
          have c0 := hx.cell c0 (FI _ (by show w.heap.size < _; omega))
          have x0 := hx.cell x0 (FI _ (by show b < _; omega))
          change Oper.wp _ _ ra w' _ _
          refine reg.wp_value (v := .pointer (some ⟨w.heap.size + 1 + 1, 0, none⟩)) (w' := w') ?_ ⟨_, rfl, heap.Turned.refl _ _, rfl⟩
          intro ρ rc rf rg re
          rw [re] at s3
          simp [execOp, go_sem, rc, rf, rg, s3] <;> first | omega | rfl | decide
        · -- 1: slot 13 := Op.load 35 t12
          intro ra w' hx hg hs
          have s12 : ra.eval (.tmp 12) = .pointer (some ⟨w.heap.size + 1 + 1, 0, none⟩) := hs.1
          clear hs
          have c0 := hx.cell c0 (FI _ (by show w.heap.size < _; omega))
          have x0 := hx.cell x0 (FI _ (by show b < _; omega))
          change Oper.wp _ _ ra w' _ _
          have hc0 := blk_cell (hg 11 rfl) 0
          refine reg.wp_value (v := .slice Av i cv) (w' := w') ?_ ⟨_, rfl, heap.Turned.refl _ _, rfl⟩
          intro ρ rc rf rg re
          rw [re] at s12
          simp [execOp, go_sem, rc, rf, rg, s12, hc0] <;> first | omega | rfl | decide
        · -- 2: slot 14 := Op.fieldAddr 37 t1 0
          intro ra w' hx hg hs
          have s1 : ra.eval (.tmp 1) = .pointer (some ⟨w.heap.size, 0, none⟩) := hs.1
          clear hs
          have c0 := hx.cell c0 (FI _ (by show w.heap.size < _; omega))
          have x0 := hx.cell x0 (FI _ (by show b < _; omega))
          change Oper.wp _ _ ra w' _ _
          refine reg.wp_value (v := .pointer (some ⟨w.heap.size, 0, none⟩)) (w' := w') ?_ ⟨_, rfl, heap.Turned.refl _ _, rfl⟩
          intro ρ rc rf rg re
          rw [re] at s1
          simp [execOp, go_sem, rc, rf, rg, s1] <;> first | omega | rfl | decide
        · -- 3: slot 15 := Op.load 35 t14
          intro ra w' hx hg hs
          have s14 : ra.eval (.tmp 14) = .pointer (some ⟨w.heap.size, 0, none⟩) := hs.1
          clear hs
          have c0 := hx.cell c0 (FI _ (by show w.heap.size < _; omega))
          have x0 := hx.cell x0 (FI _ (by show b < _; omega))
          change Oper.wp _ _ ra w' _ _
          refine reg.wp_value (v := .slice (some ⟨b, o, none⟩) ls.length c) (w' := w') ?_ ⟨_, rfl, heap.Turned.refl _ _, rfl⟩
          intro ρ rc rf rg re
          rw [re] at s14
          simp [execOp, go_sem, rc, rf, rg, s14, c0] <;> first | omega | rfl | decide
        · -- 4: slot 16 := Op.move t4
          intro ra w' hx hg hs
          have s4 : ra.eval (.tmp 4) = .int .i64 i := hs.1
          clear hs
          have c0 := hx.cell c0 (FI _ (by show w.heap.size < _; omega))
          have x0 := hx.cell x0 (FI _ (by show b < _; omega))
          change Oper.wp _ _ ra w' _ _
          refine reg.wp_value (v := .int .i64 i) (w' := w') ?_ ⟨_, rfl, heap.Turned.refl _ _, rfl⟩
          intro ρ rc rf rg re
          rw [re] at s4
          simp [execOp, go_sem, rc, rf, rg, s4] <;> first | omega | rfl | decide
        · -- 5: slot 17 := Op.indexAddr 35 t15 t16
          intro ra w' hx hg hs
          have s15 : ra.eval (.tmp 15) = .slice (some ⟨b, o, none⟩) ls.length c := hs.1
          have s16 : ra.eval (.tmp 16) = .int .i64 i := hs.2.1
          clear hs
          have c0 := hx.cell c0 (FI _ (by show w.heap.size < _; omega))
          have x0 := hx.cell x0 (FI _ (by show b < _; omega))
          change Oper.wp _ _ ra w' _ _
          refine reg.wp_value (v := .pointer (some ⟨b, o + i, none⟩)) (w' := w') ?_ ⟨_, rfl, heap.Turned.refl _ _, rfl⟩
          intro ρ rc rf rg re
          rw [re] at s15 s16
          simp [execOp, go_sem, rc, rf, rg, s15, s16, hltI] <;> first | omega | rfl | decide
        · -- 6: slot 18 := Op.load 24 t17
          intro ra w' hx hg hs
          have s17 : ra.eval (.tmp 17) = .pointer (some ⟨b, o + i, none⟩) := hs.1
          clear hs
          have c0 := hx.cell c0 (FI _ (by show w.heap.size < _; omega))
          have x0 := hx.cell x0 (FI _ (by show b < _; omega))
          change Oper.wp _ _ ra w' _ _
          refine reg.wp_value (v := .agg #[.slice Ai es.length ci]) (w' := w') ?_ ⟨_, rfl, heap.Turned.refl _ _, rfl⟩
          intro ρ rc rf rg re
          rw [re] at s17
          simp [execOp, go_sem, rc, rf, rg, s17, x0] <;> first | omega | rfl | decide
        · -- 7: slot 19 := Op.call { value (Operand.func 39), args := #[t18], argTypes := #[24] }
          intro ra w' hx hg hs
          have s18 : ra.eval (.tmp 18) = .agg #[.slice Ai es.length ci] := hs.1
          clear hs
          have c0 := hx.cell c0 (FI _ (by show w.heap.size < _; omega))
          have x0 := hx.cell x0 (FI _ (by show b < _; omega))
          change Oper.wp _ _ ra w' _ _
          refine reg.wp_call (f := 39) (args := #[.agg #[.slice Ai es.length ci]]) (w' := w') ?_ ?_
          · intro ρ rc rf rg re
            rw [re] at s18
            simp [execOp, go_sem, rc, rf, rg, s18] <;> first | omega | rfl | decide
          refine (CopyLayer_any es Ai ci w' (HX0.out.below (HBX w' hx)) hen).mono ?_
          rintro e w2 ⟨u, rfl, hr, hb⟩
          exact ⟨_, rfl, _, rfl, Turned.of_below hb, u, rfl, ERow.base hr hx.size⟩
        · -- 8: slot 20 := Op.buildSlice 35 1 #[(0, t19)]
          intro ra w' hx hg hs
          have s19 : ∃ u, (ra.eval (.tmp 19)) = .agg #[u] ∧ ERow w' wr.heap.size u es := hs.1
          clear hs
          have c0 := hx.cell c0 (FI _ (by show w.heap.size < _; omega))
          have x0 := hx.cell x0 (FI _ (by show b < _; omega))
          change Oper.wp _ _ ra w' _ _
          obtain ⟨u, hv, hr⟩ := s19
          obtain ⟨Au, gu, cu, rfl, -⟩ := hr.slice
          refine reg.wp_value (v := .slice (some ⟨w'.heap.size, 0, none⟩) 1 1) (w' := w'.alloc (.cells #[.slice Au es.length cu] 24 (0, 0))) ?_ ⟨_, rfl, (heap.Turned.refl _ _).alloc _, _, _, rfl, hx.size, blk_new _ _, hr.below ((Below.refl _ _).alloc (Nat.le_refl _) _)⟩
          intro ρ rc rf rg re
          rw [re] at hv
          simp [execOp, go_sem, rc, rf, rg, hv]
        · -- 9: slot 21 := Op.call { builtin append, args := #[t13, t20], argTypes := #[35, 35] }
          intro ra w' hx hg hs
          have s13 : ra.eval (.tmp 13) = .slice Av i cv := hs.1
          have s20 : ∃ h1 u, (ra.eval (.tmp 20)) = .slice (some ⟨h1, 0, none⟩) 1 1 ∧ wr.heap.size ≤ h1 ∧ w'.heap[h1]? = some (.cells #[u] 24 (0, 0)) ∧ ERow w' wr.heap.size u es := hs.2.1
          clear hs
          have c0 := hx.cell c0 (FI _ (by show w.heap.size < _; omega))
          have x0 := hx.cell x0 (FI _ (by show b < _; omega))
          change Oper.wp _ _ ra w' _ _
          obtain ⟨h1, u, hv, hh1, hh2, hh3⟩ := s20
          have happ := (hg 9 rfl).app hh2 (ERow.base hh3 (by omega)) (by rw [htk]; omega) (by have := hx.size; omega)
          rw [htk, HTK.out] at happ
          obtain ⟨g, cap, w3, hrun, hrow, ht⟩ := happ
          refine reg.wp_value (v := .slice (some ⟨g, 0, none⟩) (i + 1) cap) (w' := w3) (reg.runs_append rfl rfl s13 hv hrun) ⟨_, rfl, ht, g, cap, u, rfl, hrow⟩
        · -- 10: slot 22 := Op.fieldAddr 37 t3 0
          intro ra w' hx hg hs
          have s3 : ra.eval (.tmp 3) = .pointer (some ⟨w.heap.size + 1 + 1, 0, none⟩) := hs.1
          clear hs
          have c0 := hx.cell c0 (FI _ (by show w.heap.size < _; omega))
          have x0 := hx.cell x0 (FI _ (by show b < _; omega))
          change Oper.wp _ _ ra w' _ _
          refine reg.wp_value (v := .pointer (some ⟨w.heap.size + 1 + 1, 0, none⟩)) (w' := w') ?_ ⟨_, rfl, heap.Turned.refl _ _, rfl⟩
          intro ρ rc rf rg re
          rw [re] at s3
          simp [execOp, go_sem, rc, rf, rg, s3] <;> first | omega | rfl | decide
        · -- 11: slot None := Op.store 35 t22 t21
          intro ra w' hx hg hs
          have s22 : ra.eval (.tmp 22) = .pointer (some ⟨w.heap.size + 1 + 1, 0, none⟩) := hs.1
          have s21 : ∃ g cap u, (ra.eval (.tmp 21)) = .slice (some ⟨g, 0, none⟩) (i + 1) cap ∧ LRow w' (w.heap.size + 3) (ra.eval (.tmp 21)) (ls.take (i + 1)) (vs ++ [u]) := hs.2.1
          clear hs
          have c0 := hx.cell c0 (FI _ (by show w.heap.size < _; omega))
          have x0 := hx.cell x0 (FI _ (by show b < _; omega))
          change Oper.wp _ _ ra w' _ _
          have hbk := hg 11 rfl
          have hc0 := blk_cell hbk 0
          have hf0 := blk_free hbk 0
          obtain ⟨g, cap, u, hv, hrow⟩ := s21
          refine reg.wp_skip (w' := w'.setCell ⟨w.heap.size + 1 + 1, 0, none⟩ (ra.eval (.tmp 21))) ?_ ⟨_, rfl, (heap.Turned.refl _ _).setCell (by simp [cpH]) _, _, _, blk_set hbk 0 _, hrow.low ((heap.Turned.refl [w.heap.size + 1 + 1] _).setCell (by simp) _) (by simp)⟩
          rw [hv]
          intro ρ rc rf rg re
          rw [re] at hv s22
          simp [execOp, go_sem, hv, s22, hc0, hf0]
      intro rV w6 hx6 hf
      have ve0 : rV 0 = .pointer (some ⟨w.heap.size + 1 + 1, 0, none⟩) := hf 0 (by decide)
      have ve1 : rV 1 = .slice Av i cv := hf 1 (by decide)
      have ve2 : rV 2 = .pointer (some ⟨w.heap.size, 0, none⟩) := hf 2 (by decide)
      have ve3 : rV 3 = .slice (some ⟨b, o, none⟩) ls.length c := hf 3 (by decide)
      have ve4 : rV 4 = .int .i64 i := hf 4 (by decide)
      have ve5 : rV 5 = .pointer (some ⟨b, o + i, none⟩) := hf 5 (by decide)
      have ve6 : rV 6 = .agg #[.slice Ai es.length ci] := hf 6 (by decide)
      have ve7 := hf 7 (by decide)
      have ve8 := hf 8 (by decide)
      have ve9 := hf 9 (by decide)
      have ve10 : rV 10 = .pointer (some ⟨w.heap.size + 1 + 1, 0, none⟩) := hf 10 (by decide)
      have ve11 := hf 11 (by decide)
      clear hf
      simp only [List.zipIdx_cons, List.zipIdx_nil, List.foldl_cons, List.foldl_nil, Act.put, Nat.reduceAdd, List.setIfInBounds_toArray, List.set_cons_succ, List.set_cons_zero, ve0, ve1, ve2, ve3, ve4, ve5, ve6, ve10]
      clear ve0 ve1 ve2 ve3 ve4 ve5 ve6 ve10
      generalize rV 7 = v7 at *
      generalize rV 8 = v8 at *
      generalize rV 9 = v9 at *
      generalize rV 11 = v11 at *
      clear rV
      obtain ⟨x, vs', hu1, hu2⟩ := ve11
      have K0 := Lib.hid (hx6.kept H0.out (FI ⟨_, 0, none⟩ (by show w.heap.size < _; omega)))
      have K1 := Lib.hid (hx6.kept H1.out (FI ⟨_, 0, none⟩ (by show w.heap.size + 1 < _; omega)))
      have K2 := Lib.hid hu1
      have KR := Lib.hid hu2
      have KB : Hid (Below w.heap.size w w6) := HBX _ hx6
      clear hx6 hu1 hu2 ve7 ve8 ve9
      go_wp2_with fail
      go_roundg gk
      case rel => exact ⟨i + 1, x, vs', by omega, by go_num, K0, K1, K2, KR, KB⟩
      case measure => omega
    · have hil : i = ls.length := by omega
      subst hil
      rw [List.take_length] at HR
      have hn2 : ¬ (ls.length : Int) < (ls.length : Int) := by omega
      have c1 := blk_cell H1.out 0
      have f1 := blk_free H1.out 0
      have c2 := blk_cell H2.out 0
      have l1 := blk_lt H1.out
      simp only [List.getElem?_toArray, List.getElem?_cons_zero] at c1 c2
      have k2 := blk_cell (blk_set H1.out 0 (.slice Av ls.length cv)) 0
      simp only [List.setIfInBounds_toArray, List.set_cons_zero, List.getElem?_toArray, List.getElem?_cons_zero] at k2
      go_wp2_with fail
      refine bodyPost_ret (v := .agg #[.slice Av ls.length cv]) (by simp [results, Try.results16, go_sem, k2]) rfl ?_
      exact ⟨_, rfl, ⟨vs, (HR.out.low ((Turned.refl [w.heap.size + 1] wr).setCell (p := ⟨w.heap.size + 1, 0, none⟩) (by simp) (.slice Av ls.length cv)) (by simp)).base (by omega)⟩, HB.out.setCell (by simp) _⟩
end Go.Proofs.Ytifhnpkapgaboaa.arch
