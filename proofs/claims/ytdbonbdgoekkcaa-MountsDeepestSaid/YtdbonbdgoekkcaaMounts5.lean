/-
  Proved: what Table.Add (below), Remove (not there), List, orielref0.Decimal (one digit) give. Conditions: as each theorem says.
-/
import Derived.Test.YtdbonbdgoekkcaaMounts4
import Derived.ArgAppend
import Derived.Deep.Upon
import Derived.Laws.Cover3
namespace Go.Proofs.Ytdbonbdgoekkcaa.mounts
open Go.RowKit Go.Shelf
open heap path
set_option linter.unusedVariables false

set_option maxRecDepth 100000 in
set_option maxHeartbeats 1000000 in
theorem Add_below (p B : Nat) (ms : List Mt) (m : Mt) (w : World) (h : MTab w p B ms) (hn : ms.length ≤ 1000) (hb : findB ms m.at_ = false) (hc1 : cleanM m.at_ = true) (hc2 : cleanM m.fr = true) (hne : m.at_ ≠ []) (hnb : belowB m.fr m.at_ = true) (hla : m.at_.length ≤ 1000) (hlf : m.fr.length ≤ 1000) :
    Calls Try.prog 6 #[P p, mtV m] w fun e w' => e = .returned (.int .i64 1700) ∧ Below w.heap.size w w' := by
  obtain ⟨a, fr, on⟩ := m
  simp only at hb hc1 hc2 hne hnb hla hlf
  have b0 : a.isEmpty = false := by cases a <;> simp_all
  have b0' : (a == []) = false := by rw [beq_eq_false_iff_ne]; exact hne
  have hbw : Below w.heap.size w (w.alloc (.cells #[sv a, sv fr, .bool on] 29 (0, 0))) := (Below.refl _ _).alloc (Nat.le_refl _) _
  have hbx : (w.alloc (.cells #[sv a, sv fr, .bool on] 29 (0, 0))).heap[w.heap.size]? = some (.cells #[sv a, sv fr, .bool on] 29 (0, 0)) := blk_new _ _
  have HFI := Lib.hid (find_any p B ms a _ (h.below hbw) hn)
  rw [hb] at HFI
  generalize findK ms a = K at *
  have HC1 := Lib.hid (fun W : World => mclean_any a W (by omega))
  have HC2 := Lib.hid (fun W : World => mclean_any fr W (by omega))
  have HBE := Lib.hid (fun W : World => Below_any fr a W (by omega))
  rw [hc1] at HC1
  rw [hc2] at HC2
  rw [hnb] at HBE
  have HBW := Lib.hid hbw
  clear hb hc1 hc2 hne hnb hla hlf h hbw
  go_enter Try.func6, Try.ntmps6
  go_wp2_with fail
  (with_reducible refine HFI.out.mono ?_); rintro e w1 ⟨rfl, hb1⟩
  have HB1 : Hid (Below w.heap.size w w1) := HBW.out.trans (hb1.mono HBW.out.size)
  have hx1 := blk_below hbx hb1
  clear hb1 hbx
  have q0 : w1.cell? ⟨w.heap.size, 0, none⟩ = some (sv a) := by rw [blk_cell hx1]; rfl
  go_wp2_with fail
  (with_reducible refine (HC1.out _).mono ?_); rintro e w2 ⟨rfl, hb2⟩
  have HB2 : Hid (Below w.heap.size w w2) := HB1.out.trans (hb2.mono HB1.out.size)
  have hx2 := blk_below hx1 hb2
  clear hb2 hx1 HB1 q0
  have q1 : w2.cell? ⟨w.heap.size, 1, none⟩ = some (sv fr) := by rw [blk_cell hx2]; rfl
  go_wp2_with fail
  (with_reducible refine (HC2.out _).mono ?_); rintro e w3 ⟨rfl, hb3⟩
  have HB3 : Hid (Below w.heap.size w w3) := HB2.out.trans (hb3.mono HB2.out.size)
  have hx3 := blk_below hx2 hb3
  clear hb3 hx2 HB2 q1
  have q0 : w3.cell? ⟨w.heap.size, 0, none⟩ = some (sv a) := by rw [blk_cell hx3]; rfl
  have q1 : w3.cell? ⟨w.heap.size, 1, none⟩ = some (sv fr) := by rw [blk_cell hx3]; rfl
  go_wp2_with fail
  (with_reducible refine (HBE.out _).mono ?_); rintro e w4 ⟨rfl, hb4⟩
  have HB4 : Hid (Below w.heap.size w w4) := HB3.out.trans (hb4.mono HB3.out.size)
  clear hb4
  go_wp2_with fail
  go_ret
  exact ⟨rfl, HB4.out⟩
set_option maxRecDepth 100000 in
theorem Remove_no (p B : Nat) (ms : List Mt) (t : List UInt8) (w : World) (h : MTab w p B ms) (hn : ms.length ≤ 1000) (hb : findB ms t = false) :
    Calls Try.prog 10 #[P p, sv t] w fun e w' => e = .returned (.int .i64 1700) ∧ Below w.heap.size w w' := by
  have HFI := Lib.hid (find_any p B ms t w h hn)
  rw [hb] at HFI
  generalize findK ms t = K at *
  go_enter Try.func10, Try.ntmps10
  go_wp2_with fail
  (with_reducible refine HFI.out.mono ?_); rintro e w1 ⟨rfl, hb1⟩
  have HB1 := Lib.hid hb1
  clear hb1
  go_wp2_with fail
  go_ret
  exact ⟨rfl, HB1.out⟩
/-- append([]api.Mount{}, a...), not empty -/
theorem app_ms (w : World) (g b0 : Nat) (a : Option Addr) (c : Nat) (ms : List Mt) (h : MRow w b0 (.slice a ms.length c) ms) (h0 : ms ≠ []) (hn : ms.length ≤ 1000) :
    ∃ a2 c2 w2, (Builtin.append_ #[35, 35] 35 #[.slice (some ⟨g, 0, none⟩) 0 0, .slice a ms.length c]).run Try.prog w = .ok (.slice a2 ms.length c2) w2 ∧ Below w.heap.size w w2 := by
  obtain ⟨i0, hi, hz0, hz1, hz2⟩ := info_parts infoM
  have hcl := @World.ownsRow.cells _ _ _ _ _ _ _ h
  rcases h.cells with ⟨-, hw⟩ | ⟨g1, c', hv', hgl1, hgb, hc1, hc2, hcell1⟩
  · exact absurd hw h0
  · simp only [Value.slice.injEq] at hv'
    obtain ⟨rfl, -, rfl⟩ := hv'
    have hpos : 0 < ms.length := List.length_pos_iff.2 h0
    obtain ⟨v2, w2, h1, h2, h3⟩ := run_append_arg_grows (P := Try.prog) (w := w) 35 35 29 i0 _ 3 40 Try.underlying35 hi hz0 hz1 hz2 rfl (by decide) ⟨g, 0, none⟩ 0 0 [] rfl (fun j u hu => by simp at hu) ⟨g1, 0, none⟩ ms.length c (mtCs ms) (mtCs_len ms) (fun j u hu => hcl (g := g1) rfl j u hu) (by omega) (by unfold maxLen; omega) (by omega)
    rw [Nat.zero_add] at h2
    obtain ⟨-, ⟨e, e2⟩ | ⟨_, _, _, e, _⟩⟩ := h2
    · omega
    · subst e
      exact ⟨_, _, w2, h1, ⟨h3.os, h3.tape, h3.output, h3.size, fun b hb => h3.block b hb (by simp)⟩⟩
set_option maxRecDepth 100000 in
theorem Clone_any (b0 : Nat) (a : Option Addr) (c : Nat) (ms : List Mt) (w : World) (h : MRow w b0 (.slice a ms.length c) ms) (h0 : ms ≠ []) (hn : ms.length ≤ 1000) :
    Calls Try.prog 18 #[.slice a ms.length c] w fun e w' => (∃ a2 c2, e = .returned (.slice a2 ms.length c2)) ∧ Below w.heap.size w w' := by
  obtain ⟨a2, c2, w2, hrun, hb⟩ := app_ms (w.alloc (.cells #[] 29 (0, 0))) w.heap.size b0 a c ms (h.below ((Below.refl _ _).alloc (Nat.le_refl _) _)) h0 hn
  have HR := Lib.hid hrun
  have HB : Hid (Below w.heap.size w w2) := ((Below.refl _ _).alloc (Nat.le_refl _) _).trans (hb.mono (by simp))
  rcases h.cells with ⟨-, hw⟩ | ⟨g1, c', hv', -⟩
  · exact absurd hw h0
  · simp only [Value.slice.injEq] at hv'
    obtain ⟨rfl, -, rfl⟩ := hv'
    have hq : ∀ W : World, (binOp .eql 35 (.slice (some ⟨g1, 0, none⟩) ms.length c) (.slice none 0 0)).run Try.prog W = .ok (.bool false) W := fun W => by
      unfold binOp
      simp [run_equal_slice_nil W 35 29 _ _ _ Try.underlying35]
    clear hrun hb h h0
    go_enter Try.func18, Try.ntmps18
    go_wp2_with (at_builtin; refine reg.wpList_append rfl rfl rfl rfl rfl HR.out ?_)
    go_ret
    exact ⟨⟨_, _, rfl⟩, HB.out⟩
set_option maxRecDepth 100000 in
theorem List_any (p B : Nat) (ms : List Mt) (w : World) (h : MTab w p B ms) (h0 : ms ≠ []) (hn : ms.length ≤ 1000) :
    Calls Try.prog 11 #[P p] w fun e w' => (∃ a2 c2, e = .returned (.slice a2 ms.length c2)) ∧ Below w.heap.size w w' := by
  obtain ⟨v, h1, h2⟩ := h.row
  obtain ⟨a1, c1, rfl⟩ := h2.slice
  have HC := Lib.hid (Clone_any B a1 c1 ms w h2 h0 hn)
  have k0 : w.cell? ⟨p, 0, none⟩ = some (.slice a1 ms.length c1) := by rw [blk_cell h1]; rfl
  clear h1 h2 h h0
  go_enter Try.func11, Try.ntmps11
  go_wp2_with fail
  (with_reducible refine HC.out.mono ?_); rintro e w1 ⟨⟨a2, c2, rfl⟩, hb1⟩
  have HB1 := Lib.hid hb1
  clear hb1
  go_wp2_with fail
  go_ret
  exact ⟨⟨_, _, rfl⟩, HB1.out⟩
end Go.Proofs.Ytdbonbdgoekkcaa.mounts
