/-
  Proved: what LendLayer and KeptEntries do of a layer's entries. Conditions: as each theorem says.
-/
import Derived.Test.YtifhnpkapgaboaaPk40
import Derived.Deep.Upon
namespace Go.Proofs.Ytifhnpkapgaboaa.arch
open Go.RowKit
open heap
open path (sv str_size)
set_option linter.unusedVariables false
set_option linter.unusedSimpArgs false
set_option maxRecDepth 100000

/-- A slice of entries that came in. -/
def EIn (w : World) (A : Option Addr) (c : Nat) (es : List Ent) : Prop := es.length ≤ c ∧ (es = [] ∨ ∃ b o, A = some ⟨b, o, none⟩ ∧ EAt w b o es)
theorem EIn.below {w w' : World} {A : Option Addr} {c : Nat} {es : List Ent} (h : EIn w A c es) (hb : Below w.heap.size w w') : EIn w' A c es := ⟨h.1, h.2.imp id fun ⟨b, o, h1, h2⟩ => ⟨b, o, h1, h2.below hb⟩⟩
theorem rowE_cells {w : World} {b o : Nat} {es : List Ent} (h : EAt w b o es) : ∀ j u, (rowE es)[j]? = some u → w.cell? ((⟨b, o, none⟩ : Addr).add j) = some u := by
  intro j u hu
  have hl : j < es.length * 4 := by
    have := (List.getElem?_eq_some_iff.1 hu).1
    rw [rowE_len] at this
    exact this
  have hi : j / 4 < es.length := by omega
  obtain ⟨e, he⟩ : ∃ e, es[j / 4]? = some e := ⟨_, List.getElem?_eq_getElem hi⟩
  obtain ⟨g0, g1, g2, g3⟩ := rowE_get es (j / 4) e he
  obtain ⟨k0, k1, k2, k3⟩ := h (j / 4) e he
  have hadd : (⟨b, o, none⟩ : Addr).add j = ⟨b, o + j, none⟩ := by unfold Addr.add; split <;> simp_all
  rw [hadd]
  have h4 : j % 4 = 0 ∨ j % 4 = 1 ∨ j % 4 = 2 ∨ j % 4 = 3 := by omega
  rcases h4 with h4 | h4 | h4 | h4
  · have hj : j = j / 4 * 4 := by omega
    rw [hj, g0] at hu; cases hu; rw [hj]; exact k0
  · have hj : j = j / 4 * 4 + 1 := by omega
    rw [hj, g1] at hu; cases hu; rw [hj, ← Nat.add_assoc]; exact k1
  · have hj : j = j / 4 * 4 + 2 := by omega
    rw [hj, g2] at hu; cases hu; rw [hj, ← Nat.add_assoc]; exact k2
  · have hj : j = j / 4 * 4 + 3 := by omega
    rw [hj, g3] at hu; cases hu; rw [hj, ← Nat.add_assoc]; exact k3
theorem rowE_one (es : List Ent) : ∀ u ∈ rowE es, u.oneCell' = true := by
  intro u hu
  unfold rowE at hu
  rw [List.mem_flatten] at hu
  obtain ⟨l, hl, hu⟩ := hu
  obtain ⟨e, -, rfl⟩ := List.mem_map.1 hl
  exact entC_one e u hu
theorem rowE_app (xs ys : List Ent) : rowE (xs ++ ys) = rowE xs ++ rowE ys := by simp [rowE]
/-- Entries are put behind. -/
theorem ERow.apps {w : World} {base b o m c : Nat} {v : Value} {es fs : List Ent} (hr : ERow w base v es) (hf : EAt w b o fs) (h0 : fs ≠ []) (hc : m = fs.length) (hn : es.length + fs.length ≤ 2932031007402) (hb : base ≤ w.heap.size) :
    ∃ g cap W2, (Builtin.append_ #[22, 22] 22 #[v, .slice (some ⟨b, o, none⟩) m c]).run Try.prog w = .ok (.slice (some ⟨g, 0, none⟩) (es.length + m) cap) W2 ∧ ERow W2 base (.slice (some ⟨g, 0, none⟩) (es.length + m) cap) (es ++ fs) ∧ Turned v.ownBlock.toList w W2 ∧ g < W2.heap.size := by
  subst hc
  obtain ⟨i0, hi, hz0, hz1, hz2⟩ := info_parts infoE
  have hp : 0 < fs.length := List.length_pos_iff.2 h0
  obtain ⟨g, cap, w', h1, h2, h3, h4, h5⟩ := run_append_lies (P := Try.prog) (w := w) 22 22 base 52 i0 _ 4 48 Try.underlying22 hi hz0 hz1 hz2 rfl (by decide) v es.length _ hr ⟨b, o, none⟩ fs.length c (rowE fs) (rowE_len fs)
    (rowE_cells hf) (rowE_one fs) hp (by unfold maxLen; omega) (by omega) hb _ rfl
  refine ⟨g, cap, w', h1, ?_, ⟨h3.os, h3.tape, h3.output, h3.size, fun b hb hn => h3.block b hb (fun e => hn (by simp [← e]))⟩, h5⟩
  unfold ERow
  rw [List.length_append, rowE_app]
  exact h2
theorem ERow.made (w : World) : ERow (w.alloc (.cells #[] 52 (0, 0))) w.heap.size (.slice (some ⟨w.heap.size, 0, none⟩) 0 0) [] :=
  ⟨rfl, .inr ⟨w.heap.size, 0, #[], rfl, Nat.le_refl _, blk_new _ _, Nat.le_refl _, Nat.zero_le _, rfl, rfl⟩⟩
theorem app_none (w : World) (a : Addr) (A : Option Addr) (n m c : Nat) (h : n ≤ m) : (Builtin.append_ #[22, 22] 22 #[.slice (some a) n m, .slice A 0 c]).run Try.prog w = .ok (.slice (some a) n m) w := by
  obtain ⟨i0, hi, hz0, hz1, hz2⟩ := info_parts infoE
  have hu := Try.underlying22
  cases A <;> simp [Builtin.append_, Builtin.lenOf, Builtin.firstCells, run_underlying hu, sizeOf, typeInfo, hi, storeCells, loadCellsFrom, loadCells, Result.andThen, h]
theorem CopyEntries_any (es : List Ent) (A : Option Addr) (c : Nat) (w : World) (h : EIn w A c es) (hn : es.length ≤ 2932031007400) :
    Calls Try.prog 48 #[.slice A es.length c] w fun e w' => ∃ g cap, e = .returned (.slice (some ⟨g, 0, none⟩) es.length cap) ∧ ERow w' w.heap.size (.slice (some ⟨g, 0, none⟩) es.length cap) es ∧ Below w.heap.size w w' := by
  have HB : Hid (Below w.heap.size w (w.alloc (.cells #[] 52 (0, 0)))) := (Below.refl _ _).alloc (Nat.le_refl _) _
  have HR := Lib.hid (ERow.made w)
  have hrun : ∃ g cap W2, (Builtin.append_ #[22, 22] 22 #[.slice (some ⟨w.heap.size, 0, none⟩) 0 0, .slice A es.length c]).run Try.prog (w.alloc (.cells #[] 52 (0, 0))) = .ok (.slice (some ⟨g, 0, none⟩) es.length cap) W2 ∧ ERow W2 w.heap.size (.slice (some ⟨g, 0, none⟩) es.length cap) es ∧ Below w.heap.size w W2 := by
    rcases h.2 with rfl | ⟨b, o, rfl, he⟩
    · exact ⟨_, 0, _, app_none _ _ A 0 0 c (Nat.le_refl _), HR.out, HB.out⟩
    · by_cases h0 : es = []
      · subst h0
        exact ⟨_, 0, _, app_none _ _ _ 0 0 c (Nat.le_refl _), HR.out, HB.out⟩
      · obtain ⟨g, cap, W2, h1, h2, h3, -⟩ := ERow.apps (c := c) HR.out (he.below HB.out) h0 rfl (by simp; omega) (by simp)
        simp only [List.length_nil, Nat.zero_add, List.nil_append] at h1 h2
        exact ⟨g, cap, W2, h1, h2, HB.out.trans (h3.below (by simp) (fun k hk => by simp [Value.ownBlock] at hk; omega))⟩
  obtain ⟨g, cap, W2, h1, h2, h3⟩ := hrun
  have HRUN := Lib.hid h1
  have HR2 := Lib.hid h2
  have HB2 := Lib.hid h3
  clear h h1 h2 h3 HR
  go_enter Try.func48, Try.ntmps48
  go_wp2_with (at_builtin; refine reg.wpList_append rfl rfl rfl rfl rfl HRUN.out ?_)
  go_ret
  exact ⟨_, _, rfl, HR2.out, HB2.out⟩
def roomE : Ent := ⟨[126, 114, 111, 111, 109], 0, 0, []⟩
theorem LendEntries_any (es : List Ent) (A : Option Addr) (c : Nat) (w : World) (h : EIn w A c es) (hn : es.length ≤ 2932031007000) :
    Calls Try.prog 24 #[.slice A es.length c] w fun e w' => ∃ g cap, e = .returned (.slice (some ⟨g, 0, none⟩) es.length cap) ∧ ERow w' w.heap.size (.slice (some ⟨g, 0, none⟩) (es.length + 2) cap) (es ++ [roomE, roomE]) ∧ Below w.heap.size w w' := by
  have HC := Lib.hid (CopyEntries_any es A c w h (by omega))
  clear h
  go_enter Try.func24, Try.ntmps24
  go_wp2_with fail
  refine HC.out.mono ?_; rintro e w1 ⟨g, cap, rfl, hr, hb⟩
  have HR := Lib.hid hr
  have HB := Lib.hid hb
  have hbx := blk_new w1 (.cells #[sv [126, 114, 111, 111, 109], .int .i64 0, .int .i64 0, sv [], sv [126, 114, 111, 111, 109], .int .i64 0, .int .i64 0, sv []] 52 (0, 0))
  have hat : EAt (w1.alloc (.cells #[sv [126, 114, 111, 111, 109], .int .i64 0, .int .i64 0, sv [], sv [126, 114, 111, 111, 109], .int .i64 0, .int .i64 0, sv []] 52 (0, 0))) w1.heap.size 0 [roomE, roomE] := fun i e he => by
    match i with
    | 0 => cases he; exact ⟨blk_cell hbx 0, blk_cell hbx 1, blk_cell hbx 2, blk_cell hbx 3⟩
    | 1 => cases he; exact ⟨blk_cell hbx 4, blk_cell hbx 5, blk_cell hbx 6, blk_cell hbx 7⟩
    | i + 2 => cases he
  obtain ⟨g2, cap2, W2, h1, h2, h3, h4⟩ := ERow.apps (c := 2) (hr.below ((Below.refl _ _).alloc (Nat.le_refl _) _)) hat (by simp) rfl (by simp; omega) (by simp; have := hb.size; omega)
  have hc := h2.2
  have hcap : es.length + 2 ≤ cap2 ∧ cap2 ≤ 9223372036854775807 := by
    obtain ⟨_, _, _, hv, h5, h6, -⟩ := h2.slice
    simp only [Value.slice.injEq] at hv
    obtain ⟨-, -, rfl⟩ := hv
    exact ⟨by simpa using h5, h6⟩
  have HRUN := Lib.hid h1
  have HR2 := Lib.hid h2
  have HB2 : Hid (Below w.heap.size w W2) := (hb.alloc hb.size _).trans (h3.below (by simp; have := hb.size; omega) (fun k hk => (hr.lt k hk).1))
  clear hr hb HC hbx hat h1 h2 h3 h4 hc
  go_wp2_with (at_builtin; refine reg.wpList_append rfl rfl rfl rfl rfl HRUN.out ?_)
  go_ret
  exact ⟨_, _, rfl, HR2.out, HB2.out⟩
theorem lent_at {w : World} {base g cap n : Nat} {es : List Ent} (h : ERow w base (.slice (some ⟨g, 0, none⟩) n cap) (es ++ [roomE, roomE])) : EAt w g 0 (es ++ [roomE, roomE]) ∧ base ≤ g ∧ g < w.heap.size ∧ es.length + 2 ≤ cap ∧ cap ≤ 9223372036854775807 ∧ n = es.length + 2 := by
  obtain ⟨A, g2, c, hv, h1, h2, h3, h4⟩ := h.slice
  simp only [Value.slice.injEq] at hv
  obtain ⟨rfl, rfl, rfl⟩ := hv
  obtain ⟨h5, h6, h7⟩ := h3 (by simp)
  cases h5
  exact ⟨h4, h6, h7, by simpa using h1, h2, by simp⟩
theorem EAt.left {w : World} {b o : Nat} {es fs : List Ent} (h : EAt w b o (es ++ fs)) : EAt w b o es := by
  have := h.take es.length
  rwa [List.take_left'] at this
  rfl
theorem LendLayer_any (es : List Ent) (A : Option Addr) (c : Nat) (w : World) (h : EIn w A c es) (hn : es.length ≤ 2932031007000) :
    Calls Try.prog 8 #[.agg #[.slice A es.length c]] w fun e w' => ∃ g cap, e = .returned (.agg #[.slice (some ⟨g, 0, none⟩) es.length cap]) ∧ ERow w' w.heap.size (.slice (some ⟨g, 0, none⟩) (es.length + 2) cap) (es ++ [roomE, roomE]) ∧ Below w.heap.size w w' := by
  have HB : Hid (Below w.heap.size w ((w.alloc (.cells #[.slice A es.length c] 24 (0, 0))).alloc (.cells #[.slice none 0 0] 24 (0, 0)))) := ((Below.refl _ _).alloc (Nat.le_refl _) _).alloc (by simp) _
  have HC := Lib.hid (LendEntries_any es A c _ (h.below HB.out) hn)
  have hn2 := blk_new (w.alloc (.cells #[.slice A es.length c] 24 (0, 0))) (.cells #[.slice none 0 0] 24 (0, 0))
  rw [World.size_alloc] at hn2
  have HN := Lib.hid hn2
  clear h hn2
  go_enter Try.func8, Try.ntmps8
  go_wp2_with fail
  refine HC.out.mono ?_; rintro e w1 ⟨g, cap, rfl, hr, hb⟩
  have hn2 := blk_below HN.out hb
  have HR := Lib.hid hr
  have HB2 := Lib.hid (HB.out.trans (hb.mono HB.out.size))
  clear hr hb HC HB
  have c2 := blk_cell hn2 0
  have f2 := blk_free hn2 0
  have l2 := blk_lt hn2
  simp only [List.getElem?_toArray, List.getElem?_cons_zero] at c2
  have k2 := blk_cell (blk_set hn2 0 (.slice (some ⟨g, 0, none⟩) es.length cap)) 0
  simp only [List.setIfInBounds_toArray, List.set_cons_zero, List.getElem?_toArray, List.getElem?_cons_zero] at k2
  go_wp2_with fail
  refine bodyPost_ret (v := .agg #[.slice (some ⟨g, 0, none⟩) es.length cap]) (by simp [results, Try.results8, go_sem, k2]) rfl ?_
  refine ⟨_, _, rfl, ?_, HB2.out.setCell (by simp) _⟩
  refine ERow.base (HR.out.turned ((Turned.refl [w.heap.size + 1] _).setCell (p := ⟨w.heap.size + 1, 0, none⟩) (by simp) (.slice (some ⟨g, 0, none⟩) es.length cap)) (fun k hk hm => ?_)) (by simp; omega)
  have k1 := (HR.out.lt k hk).1
  simp at hm k1
  omega
theorem eq_ent (d e : Ent) (w : World) : (Op.equalIn 10000 52 (entV d) (entV e)).run Try.prog w = .ok (decide (d = e)) w := by
  have u3 := Try.underlying3
  have u9 := Try.underlying9
  rw [show (10000 : Nat) = 9999 + 1 from rfl, run_equalIn_struct w 9999 52 _ _ (by kernel_rfl) (by kernel_rfl)]
  simp only [Program.fieldsOf, Try.underlying52]
  obtain ⟨p, k, m, x⟩ := d
  obtain ⟨p', k', m', x'⟩ := e
  have hs : ∀ a b : Nm, ((⟨a.toArray⟩ : ByteArray) == ⟨b.toArray⟩) = decide (a = b) := fun a b => by
    rw [Bool.eq_iff_iff, MapKept.bytes_beq, maps.str_inj]; simp
  go_simp
  by_cases h1 : p = p' <;> by_cases h2 : k = k' <;> by_cases h3 : m = m' <;> by_cases h4 : x = x' <;> simp [h1, h2, h3, h4, hs]
theorem neql_ent (d e : Ent) (w : World) : (binOp .neq 52 (entV d) (entV e)).run Try.prog w = .ok (.bool (!decide (d = e))) w := by
  rw [run_neq_struct, eq_ent]; rfl
theorem eql_ent (d e : Ent) (w : World) : (binOp .eql 52 (entV d) (entV e)).run Try.prog w = .ok (.bool (decide (d = e))) w := by
  rw [run_eql_struct, eq_ent]; rfl
theorem SameEntries_same (es : List Ent) (A : Option Addr) (g c cap : Nat) (w : World) (h : EIn w A c es) (hg : EAt w g 0 es) (hcap : es.length ≤ cap) (hcm : cap ≤ 9223372036854775807) (hc : c ≤ 9223372036854775807) :
    Calls Try.prog 22 #[.slice (some ⟨g, 0, none⟩) es.length cap, .slice A es.length c] w fun e w' => e = .returned (.bool true) ∧ Below w.heap.size w w' := by
  have H := Lib.hid h
  have HG := Lib.hid hg
  have hcl := h.1
  clear h hg
  go_enter Try.func22, Try.ntmps22
  go_wp2_with fail
  go_loopg [5] es.length (fun kk v3 wr => ∃ i : Nat, i + kk = es.length ∧ v3 = .int .i64 i ∧ Hid (Below w.heap.size w wr))
  case atStart => exact ⟨0, by omega, rfl, Below.refl _ _⟩
  case round =>
    obtain ⟨i, hik, rfl, HB⟩ := hrel
    by_cases hlt : i < es.length
    · cases gk with
      | zero => omega
      | succ gk =>
      have hltI : (i : Int) < (es.length : Int) := by omega
      obtain ⟨e, he⟩ : ∃ e, es[i]? = some e := ⟨_, List.getElem?_eq_getElem hlt⟩
      rcases H.out.2 with rfl | ⟨b, o, rfl, hb⟩
      · simp at hlt
      obtain ⟨x0, x1, x2, x3⟩ := HG.out.below HB.out i e he
      obtain ⟨y0, y1, y2, y3⟩ := hb.below HB.out i e he
      clear hb he
      simp only [Nat.zero_add] at x0 x1 x2 x3
      go_wp2_with fail
      refine reg.region_each (by kernel_rfl) reg.Ext (fun ri v w' => match ri with
          | 0 => v = .slice (some ⟨g, 0, none⟩) es.length cap
          | 1 => v = .int .i64 i
          | 2 => v = .pointer (some ⟨g, i * 4, none⟩)
          | 3 => v = entV e
          | 4 => v = .slice (some ⟨b, o, none⟩) es.length c
          | 5 => v = .int .i64 i
          | 6 => v = .pointer (some ⟨b, o + i * 4, none⟩)
          | 7 => v = entV e
          | 8 => v = .bool false
          | _ => True) reg.Ext.refl reg.Ext.trans ?_ (by kernel_rfl) ?_ ?_
      ·
        intro i v w1 w2 h hx
        rcases i with _|_|_|_|_|_|_|_|_|i
        · exact h
        · exact h
        · exact h
        · exact h
        · exact h
        · exact h
        · exact h
        · exact h
        · exact h
        · trivial
      ·
        refine ⟨?_, ?_, ?_, ?_, ?_, ?_, ?_, ?_, ?_, trivial⟩
        · -- 0: slot 17 := Op.move t0
          intro ra w' hx hs
          have s0 : ra.eval (.tmp 0) = .slice (some ⟨g, 0, none⟩) es.length cap := hs.1
          clear hs
          have x0 := hx.cell x0
          have x1 := hx.cell x1
          have x2 := hx.cell x2
          have x3 := hx.cell x3
          have y0 := hx.cell y0
          have y1 := hx.cell y1
          have y2 := hx.cell y2
          have y3 := hx.cell y3
          change Oper.wp _ _ ra w' _ _
          refine reg.wp_value (v := .slice (some ⟨g, 0, none⟩) es.length cap) (w' := w') ?_ ⟨_, rfl, reg.Ext.refl _, rfl⟩
          intro ρ rc rf rg re
          rw [re] at s0
          simp [execOp, go_sem, rc, rf, rg, s0] <;> first | omega | rfl | decide
        · -- 1: slot 18 := Op.move t5
          intro ra w' hx hs
          have s5 : ra.eval (.tmp 5) = .int .i64 i := hs.1
          clear hs
          have x0 := hx.cell x0
          have x1 := hx.cell x1
          have x2 := hx.cell x2
          have x3 := hx.cell x3
          have y0 := hx.cell y0
          have y1 := hx.cell y1
          have y2 := hx.cell y2
          have y3 := hx.cell y3
          change Oper.wp _ _ ra w' _ _
          refine reg.wp_value (v := .int .i64 i) (w' := w') ?_ ⟨_, rfl, reg.Ext.refl _, rfl⟩
          intro ρ rc rf rg re
          rw [re] at s5
          simp [execOp, go_sem, rc, rf, rg, s5] <;> first | omega | rfl | decide
        · -- 2: slot 19 := Op.indexAddr 22 t17 t18
          intro ra w' hx hs
          have s17 : ra.eval (.tmp 17) = .slice (some ⟨g, 0, none⟩) es.length cap := hs.1
          have s18 : ra.eval (.tmp 18) = .int .i64 i := hs.2.1
          clear hs
          have x0 := hx.cell x0
          have x1 := hx.cell x1
          have x2 := hx.cell x2
          have x3 := hx.cell x3
          have y0 := hx.cell y0
          have y1 := hx.cell y1
          have y2 := hx.cell y2
          have y3 := hx.cell y3
          change Oper.wp _ _ ra w' _ _
          refine reg.wp_value (v := .pointer (some ⟨g, i * 4, none⟩)) (w' := w') ?_ ⟨_, rfl, reg.Ext.refl _, rfl⟩
          intro ρ rc rf rg re
          rw [re] at s17 s18
          simp [execOp, go_sem, rc, rf, rg, s17, s18, hltI] <;> first | omega | rfl | decide
        · -- 3: slot 20 := Op.load 52 t19
          intro ra w' hx hs
          have s19 : ra.eval (.tmp 19) = .pointer (some ⟨g, i * 4, none⟩) := hs.1
          clear hs
          have x0 := hx.cell x0
          have x1 := hx.cell x1
          have x2 := hx.cell x2
          have x3 := hx.cell x3
          have y0 := hx.cell y0
          have y1 := hx.cell y1
          have y2 := hx.cell y2
          have y3 := hx.cell y3
          change Oper.wp _ _ ra w' _ _
          refine reg.wp_value (v := entV e) (w' := w') ?_ ⟨_, rfl, reg.Ext.refl _, rfl⟩
          intro ρ rc rf rg re
          rw [re] at s19
          simp [execOp, go_sem, rc, rf, rg, s19, x0, x1, x2, x3] <;> first | omega | rfl | decide
        · -- 4: slot 21 := Op.move t1
          intro ra w' hx hs
          have s1 : ra.eval (.tmp 1) = .slice (some ⟨b, o, none⟩) es.length c := hs.1
          clear hs
          have x0 := hx.cell x0
          have x1 := hx.cell x1
          have x2 := hx.cell x2
          have x3 := hx.cell x3
          have y0 := hx.cell y0
          have y1 := hx.cell y1
          have y2 := hx.cell y2
          have y3 := hx.cell y3
          change Oper.wp _ _ ra w' _ _
          refine reg.wp_value (v := .slice (some ⟨b, o, none⟩) es.length c) (w' := w') ?_ ⟨_, rfl, reg.Ext.refl _, rfl⟩
          intro ρ rc rf rg re
          rw [re] at s1
          simp [execOp, go_sem, rc, rf, rg, s1] <;> first | omega | rfl | decide
        · -- 5: slot 22 := Op.move t5
          intro ra w' hx hs
          have s5 : ra.eval (.tmp 5) = .int .i64 i := hs.1
          clear hs
          have x0 := hx.cell x0
          have x1 := hx.cell x1
          have x2 := hx.cell x2
          have x3 := hx.cell x3
          have y0 := hx.cell y0
          have y1 := hx.cell y1
          have y2 := hx.cell y2
          have y3 := hx.cell y3
          change Oper.wp _ _ ra w' _ _
          refine reg.wp_value (v := .int .i64 i) (w' := w') ?_ ⟨_, rfl, reg.Ext.refl _, rfl⟩
          intro ρ rc rf rg re
          rw [re] at s5
          simp [execOp, go_sem, rc, rf, rg, s5] <;> first | omega | rfl | decide
        · -- 6: slot 23 := Op.indexAddr 22 t21 t22
          intro ra w' hx hs
          have s21 : ra.eval (.tmp 21) = .slice (some ⟨b, o, none⟩) es.length c := hs.1
          have s22 : ra.eval (.tmp 22) = .int .i64 i := hs.2.1
          clear hs
          have x0 := hx.cell x0
          have x1 := hx.cell x1
          have x2 := hx.cell x2
          have x3 := hx.cell x3
          have y0 := hx.cell y0
          have y1 := hx.cell y1
          have y2 := hx.cell y2
          have y3 := hx.cell y3
          change Oper.wp _ _ ra w' _ _
          refine reg.wp_value (v := .pointer (some ⟨b, o + i * 4, none⟩)) (w' := w') ?_ ⟨_, rfl, reg.Ext.refl _, rfl⟩
          intro ρ rc rf rg re
          rw [re] at s21 s22
          simp [execOp, go_sem, rc, rf, rg, s21, s22, hltI] <;> first | omega | rfl | decide
        · -- 7: slot 24 := Op.load 52 t23
          intro ra w' hx hs
          have s23 : ra.eval (.tmp 23) = .pointer (some ⟨b, o + i * 4, none⟩) := hs.1
          clear hs
          have x0 := hx.cell x0
          have x1 := hx.cell x1
          have x2 := hx.cell x2
          have x3 := hx.cell x3
          have y0 := hx.cell y0
          have y1 := hx.cell y1
          have y2 := hx.cell y2
          have y3 := hx.cell y3
          change Oper.wp _ _ ra w' _ _
          refine reg.wp_value (v := entV e) (w' := w') ?_ ⟨_, rfl, reg.Ext.refl _, rfl⟩
          intro ρ rc rf rg re
          rw [re] at s23
          simp [execOp, go_sem, rc, rf, rg, s23, y0, y1, y2, y3] <;> first | omega | rfl | decide
        · -- 8: slot 25 := Op.binOp BinOp.neq 52 t20 t24 52
          intro ra w' hx hs
          have s20 : ra.eval (.tmp 20) = entV e := hs.1
          have s24 : ra.eval (.tmp 24) = entV e := hs.2.1
          clear hs
          have x0 := hx.cell x0
          have x1 := hx.cell x1
          have x2 := hx.cell x2
          have x3 := hx.cell x3
          have y0 := hx.cell y0
          have y1 := hx.cell y1
          have y2 := hx.cell y2
          have y3 := hx.cell y3
          change Oper.wp _ _ ra w' _ _
          refine reg.wp_value (v := .bool false) (w' := w') ?_ ⟨_, rfl, reg.Ext.refl _, rfl⟩
          intro ρ rc rf rg re
          rw [re] at s20 s24
          simp [execOp, go_sem, rc, rf, rg, s20, s24, neql_ent] <;> first | omega | rfl | decide
      intro rV w' hx hf
      have ve0 : rV 0 = .slice (some ⟨g, 0, none⟩) es.length cap := hf 0 (by decide)
      have ve1 : rV 1 = .int .i64 i := hf 1 (by decide)
      have ve2 : rV 2 = .pointer (some ⟨g, i * 4, none⟩) := hf 2 (by decide)
      have ve3 : rV 3 = entV e := hf 3 (by decide)
      have ve4 : rV 4 = .slice (some ⟨b, o, none⟩) es.length c := hf 4 (by decide)
      have ve5 : rV 5 = .int .i64 i := hf 5 (by decide)
      have ve6 : rV 6 = .pointer (some ⟨b, o + i * 4, none⟩) := hf 6 (by decide)
      have ve7 : rV 7 = entV e := hf 7 (by decide)
      have ve8 : rV 8 = .bool false := hf 8 (by decide)
      clear hf
      simp only [List.zipIdx_cons, List.zipIdx_nil, List.foldl_cons, List.foldl_nil, Act.put, Nat.reduceAdd, List.setIfInBounds_toArray, List.set_cons_succ, List.set_cons_zero, ve0, ve1, ve2, ve3, ve4, ve5, ve6, ve7, ve8]
      clear ve0 ve1 ve2 ve3 ve4 ve5 ve6 ve7 ve8
      clear rV
      go_wp2_with fail
      go_roundg gk
      case rel => exact ⟨i + 1, by omega, by go_num, HB.out.drew.trans (hx.mono (Nat.le_trans HB.out.size (Nat.le_refl _)))⟩
      case measure => omega
    · have hn : ¬ (i : Int) < (es.length : Int) := by omega
      go_wp2_with fail
      go_ret
      exact ⟨rfl, HB.out⟩
end Go.Proofs.Ytifhnpkapgaboaa.arch
