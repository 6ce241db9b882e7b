/-
  Proved: what the program's Decode does. Conditions: as each theorem says.
-/
import Derived.Test.YtifhnpkapgaboaaPk26
namespace Go.Proofs.Ytifhnpkapgaboaa.arch
open Go.RowKit
open heap
open path (sv str_size)
set_option linter.unusedVariables false
set_option linter.unusedSimpArgs false
set_option maxRecDepth 100000

theorem decode1_any (q : Nat) (s : Nm) (W : World) (h : W.heap[q]? = some (RdO s 0)) (hs : s.length ≤ 65536) : Calls Try.prog 42 #[PP q] W (LayP q s (layerD s 0) W) := by
  have H := Lib.hid h
  have hl := blk_lt h
  have HL := Lib.hid (layer_any q s 0 _ (blk_old h (.cells #[.slice none 0 0] 24 (0, 0))) (by omega) hs)
  clear h
  obtain ⟨R, hR⟩ : ∃ R, layerD s 0 = R := ⟨_, rfl⟩
  rw [hR] at HL ⊢
  clear hR
  have HN := Lib.hid (blk_new W (.cells #[.slice none 0 0] 24 (0, 0)))
  have HT : Hid (Turned [q] W (W.alloc (.cells #[.slice none 0 0] 24 (0, 0)))) := (Turned.refl _ _).alloc _
  go_enter Try.func42, Try.ntmps42
  go_wp2_with fail
  refine (HL.out).mono ?_
  intro e w2 hp
  cases R with
  | error p =>
    obtain ⟨rfl, ht⟩ := hp
    go_wp2_with fail
    exact ⟨rfl, rfl, HT.out.trans ht⟩
  | ok r =>
    obtain ⟨es, a⟩ := r
    obtain ⟨v, rfl, hrow, hq, ht⟩ := hp
    obtain ⟨A, gb, c, rfl, -⟩ := hrow.slice
    have HN2 := ht.kept HN.out (by simp; omega)
    have HT2 := Lib.hid (HT.out.trans ht)
    have HQ := Lib.hid hq
    have HR := Lib.hid hrow
    clear ht hq hrow
    have c2 := blk_cell HN2 0
    have f2 := blk_free HN2 0
    have l2 := blk_lt HN2
    simp only [List.getElem?_toArray, List.getElem?_cons_zero] at c2
    go_upto_region 5 with fail
    have k2 := blk_cell (blk_set HN2 0 (.slice A es.length c)) 0
    simp only [List.setIfInBounds_toArray, List.set_cons_zero, List.getElem?_toArray, List.getElem?_cons_zero] at k2
    have HP : LayP q s (.ok (es, a)) W (.returned (.agg #[.slice A es.length c])) (w2.setCell ⟨W.heap.size, 0, none⟩ (.slice A es.length c)) :=
      ⟨_, rfl, ERow.base (HR.out.turned ((Turned.refl [W.heap.size] _).setCell (by simp) _) (fun g hg hm => by
        have k1 := (HR.out.lt g hg).1
        simp at hm k1
        omega)) (by simp), (blk_other (by omega) 0 _).trans HQ.out, tur_set HT2.out (Nat.le_refl _) _⟩
    refine bodyPost_ret (v := .agg #[.slice A es.length c]) (by simp [results, Try.results42, go_sem, k2]) rfl ?_
    exact HP
theorem dec_read (s : Nm) : readD s (layerD s 0) = decD s := by
  unfold readD layerD markD decD
  by_cases h1 : 65536 < s.length
  · rw [if_pos h1, if_pos h1]
  rw [if_neg h1, if_neg h1]
  by_cases h2 : mkL.isPrefixOf (s.drop 0) = true
  · have h3 : s.take 3 = mkL := by
      obtain ⟨t, ht⟩ := List.isPrefixOf_iff_prefix.1 h2
      rw [List.drop_zero] at ht
      rw [← ht]
      rfl
    rw [if_pos h2, if_neg (by rw [h3]; simp)]
    rfl
  · rw [if_neg h2, if_pos (fun h3 => h2 (List.isPrefixOf_iff_prefix.2 ⟨s.drop 3, by rw [List.drop_zero, ← h3]; exact List.take_append_drop 3 s⟩))]
theorem Decode_any (s : Nm) (w : World) (hs : s.length ≤ 1000000000000000000) : Calls Try.prog 18 #[sv s] w (DecP (decD s) w) := by
  have HR := Lib.hid (readL_any s (layerD s 0) (w.alloc (.cells #[.slice none 0 0] 24 (0, 0))) hs (fun q W h hl => decode1_any q s W h hl))
  rw [dec_read] at HR
  obtain ⟨R, hR⟩ : ∃ R, decD s = R := ⟨_, rfl⟩
  rw [hR] at HR ⊢
  clear hR
  have hmf : ∀ (fn : Fn) (first cap : Array Value) (w : World), (Instr.makeFunc fn first cap).run Try.prog w = .ok (.func fn first cap) w := fun _ _ _ _ => rfl
  have HN := Lib.hid (blk_new w (.cells #[.slice none 0 0] 24 (0, 0)))
  have HB : Hid (Below w.heap.size w (w.alloc (.cells #[.slice none 0 0] 24 (0, 0)))) := (Below.refl _ _).alloc (Nat.le_refl _) _
  go_enter Try.func18, Try.ntmps18
  go_wp2_with fail
  refine (HR.out).mono ?_
  intro e w2 hp
  cases R with
  | error p =>
    obtain ⟨rfl, hb⟩ := hp
    have HN2 := blk_below HN.out hb
    have HB2 := Lib.hid (HB.out.trans (hb.mono (by simp)))
    clear hb HB HR
    have c2 := blk_cell HN2 0
    have f2 := blk_free HN2 0
    have l2 := blk_lt HN2
    simp only [List.getElem?_toArray, List.getElem?_cons_zero] at c2
    go_wp2_with fail
    have k2 := blk_cell (blk_set HN2 0 (.slice none 0 0)) 0
    simp only [List.setIfInBounds_toArray, List.set_cons_zero, List.getElem?_toArray, List.getElem?_cons_zero] at k2
    refine bodyPost_ret (v := .tuple #[.agg #[.slice none 0 0], .int .i64 p.1, .int .i64 p.2]) (by simp [results, Try.results18, go_sem, k2]) rfl ?_
    exact ⟨rfl, HB2.out.setCell (by simp) _⟩
  | ok es =>
    obtain ⟨v, rfl, hrow, hb⟩ := hp
    obtain ⟨A, gb, c, rfl, -⟩ := hrow.slice
    have HN2 := blk_below HN.out hb
    have HB2 := Lib.hid (HB.out.trans (hb.mono (by simp)))
    have HW := Lib.hid hrow
    clear hb HB HR hrow
    have c2 := blk_cell HN2 0
    have f2 := blk_free HN2 0
    have l2 := blk_lt HN2
    simp only [List.getElem?_toArray, List.getElem?_cons_zero] at c2
    go_upto_region 6 with fail
    have k2 := blk_cell (blk_set HN2 0 (.slice A es.length c)) 0
    simp only [List.setIfInBounds_toArray, List.set_cons_zero, List.getElem?_toArray, List.getElem?_cons_zero] at k2
    refine bodyPost_ret (v := .tuple #[.agg #[.slice A es.length c], .int .i64 0, .int .i64 0]) (by simp [results, Try.results18, go_sem, k2]) rfl ?_
    exact ⟨_, rfl, ERow.base (HW.out.turned ((Turned.refl [w.heap.size] _).setCell (by simp) _) (fun g hg hm => by
        have k1 := (HW.out.lt g hg).1
        simp at hm k1
        omega)) (by simp), HB2.out.setCell (by simp) _⟩

end Go.Proofs.Ytifhnpkapgaboaa.arch
