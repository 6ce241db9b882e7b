/-
  Proved: what mounts.New, find, clean, slices.Insert at the end, Add give. Conditions: as each theorem says.
-/
import Derived.Test.YtdbonbdgoekkcaaMounts1
import Derived.Test.YtdbonbdgoekkcaaReg
namespace Go.Proofs.Ytdbonbdgoekkcaa.mounts
open Go.RowKit Go.Shelf
open heap path
set_option linter.unusedVariables false

abbrev P (p : Nat) : Value := .pointer (some ⟨p, 0, none⟩)
/-- A table: its row lies above it. -/
structure MTab (w : World) (p B : Nat) (ms : List Mt) : Prop where
  lt : p < B
  hi : B ≤ w.heap.size
  row : ∃ v, w.heap[p]? = some (.cells #[v] 38 (0, 0)) ∧ MRow w B v ms
theorem MTab.below {w w' : World} {p B : Nat} {ms : List Mt} (h : MTab w p B ms) (hb : Below w.heap.size w w') : MTab w' p B ms := by
  obtain ⟨v, h1, h2⟩ := h.row
  exact ⟨h.lt, Nat.le_trans h.hi hb.size, v, blk_below h1 hb, h2.below hb⟩
set_option maxRecDepth 100000 in
theorem New_any (w : World) : Calls Try.prog 5 #[] w fun e w' => e = .returned (P w.heap.size) ∧ MTab w' w.heap.size (w.heap.size + 1) [] ∧ Below w.heap.size w w' := by
  go_enter Try.func5, Try.ntmps5
  go_wp2_with fail
  go_ret
  exact ⟨rfl, ⟨by omega, by simp, _, blk_new _ _, World.ownsRow_nil _ _ _ _⟩, (Below.refl _ _).alloc (Nat.le_refl _) _⟩
set_option maxRecDepth 100000 in
theorem find_any (p B : Nat) (ms : List Mt) (t : List UInt8) (w : World) (h : MTab w p B ms) (hn : ms.length ≤ 1000) :
    Calls Try.prog 12 #[P p, sv t] w fun e w' => e = .returned (.tuple #[.int .i64 (findK ms t), .bool (findB ms t)]) ∧ Below w.heap.size w w' := by
  obtain ⟨v, h1, h2⟩ := h.row
  have HS := Lib.hid (Search_any B v ms t w h2 hn)
  obtain ⟨a1, c1, rfl⟩ := h2.slice
  have k0 : w.cell? ⟨p, 0, none⟩ = some (.slice a1 ms.length c1) := by rw [blk_cell h1]; rfl
  clear h1 h2 h
  go_enter Try.func12, Try.ntmps12
  go_wp2_with fail
  (with_reducible refine HS.out.mono ?_); rintro e w1 ⟨rfl, hb1⟩
  have HB := Lib.hid hb1
  clear hb1
  go_wp2_with fail
  first | go_ret | go_ret2
  exact ⟨rfl, HB.out⟩
def cleanM (s : List UInt8) : Bool := decide ((cleanR [] (47 :: s)).2 = 0) && decide ((cleanR [] (47 :: s)).1 = s)
set_option maxRecDepth 100000 in
theorem mclean_any (s : List UInt8) (w : World) (hs : s.length ≤ 1000000) : Calls Try.prog 13 #[sv s] w fun e w' => e = .returned (.bool (cleanM s)) ∧ Below w.heap.size w w' := by
  have HC : Hid (∀ W : World, Calls Try.prog 22 #[.string ⟨#[]⟩, sv (47 :: s)] W fun e w' => e = .returned (.tuple #[sv (cleanR [] (47 :: s)).1, .int .i64 (cleanR [] (47 :: s)).2]) ∧ Below W.heap.size W w') := fun W => Clean_any [] (47 :: s) W (by simp) (by simp; omega)
  have HV := Lib.hid (show cleanM s = (decide ((cleanR [] (47 :: s)).2 = 0) && decide ((cleanR [] (47 :: s)).1 = s)) from rfl)
  have hj : (⟨#[47]⟩ : ByteArray) ++ ⟨s.toArray⟩ = ⟨(47 :: s).toArray⟩ := join_s [47] s
  have z := str_size s
  generalize cleanR [] (47 :: s) = r at *
  generalize 47 :: s = s1 at *
  generalize cleanM s = cm at *
  obtain ⟨a, er⟩ := r
  simp only at HC HV
  go_enter Try.func13, Try.ntmps13
  go_wp2_with fail
  (with_reducible refine (HC.out _).mono ?_); rintro e w1 ⟨rfl, hb1⟩
  have HB := Lib.hid hb1
  clear hb1
  by_cases he : er = 0
  · subst he
    by_cases ha : a = s
    · obtain rfl : cm = true := by rw [HV.out, decide_eq_true rfl, decide_eq_true ha]; rfl
      have h2 : (a == s) = true := by rw [beq_iff_eq]; exact ha
      clear ha
      go_wp2_with fail
      go_ret
      exact ⟨rfl, HB.out⟩
    · obtain rfl : cm = false := by rw [HV.out, decide_eq_false ha, Bool.and_false]
      have h2 : (a == s) = false := by rw [beq_eq_false_iff_ne]; exact ha
      clear ha
      go_wp2_with fail
      go_ret
      exact ⟨rfl, HB.out⟩
  · obtain rfl : cm = false := by rw [HV.out, decide_eq_false he, Bool.false_and]
    have h2 : (er == 0) = false := by rw [beq_eq_false_iff_ne]; exact he
    clear he
    go_wp2_with fail
    go_ret
    exact ⟨rfl, HB.out⟩
theorem infoM : (Try.prog.info? 29).map (fun i => (i.zero, i.size, i.bytes)) = some (some (.agg #[.string ⟨#[]⟩, .string ⟨#[]⟩, .bool false]), 3, 40) := by kernel_rfl
set_option maxRecDepth 100000 in
theorem Insert_end (B g : Nat) (v : Value) (ms : List Mt) (m : Mt) (w : World) (h : MRow w B v ms) (hg : w.heap[g]? = some (.cells #[sv m.at_, sv m.fr, .bool m.on] 29 (0, 0))) (hB : B ≤ w.heap.size) (hn : ms.length ≤ 1000) :
    Calls Try.prog 15 #[v, .int .i64 ms.length, .slice (some ⟨g, 0, none⟩) 1 1] w fun e w' => ∃ v2, e = .returned v2 ∧ MRow w' B v2 (ms ++ [m]) ∧ Turned v.ownBlock.toList w w' := by
  obtain ⟨i0, hi, hz0, hz1, hz2⟩ := info_parts infoM
  obtain ⟨v2, w2, hrun, hown, hgr, _⟩ := run_append_own (P := Try.prog) w B 35 35 29 i0 _ 3 40 Try.underlying35 hi hz0 hz1 hz2 rfl (by decide) v ms.length _ h ⟨g, 0, none⟩ 1 1 (mtC m) rfl (fun j u hu => by rw [add0, blk_cell hg]; simpa [mtC] using hu) (by simp [mtC, Value.oneCell']) (by unfold maxLen; omega) (by omega) hB
  have HR : Hid (MRow w2 B v2 (ms ++ [m]) ∧ Turned v.ownBlock.toList w w2) := by
    refine ⟨?_, ⟨hgr.os, hgr.tape, hgr.output, hgr.size, fun b hb hn => hgr.block b hb (fun e => hn (by simp [← e]))⟩⟩
    unfold MRow
    rw [List.length_append]
    have e : mtCs (ms ++ [m]) = mtCs ms ++ mtC m := by simp [mtCs]
    rw [e]; exact hown
  have HRUN := Lib.hid hrun
  have hc := h.cells
  obtain ⟨a1, c1, rfl⟩ := h.slice
  clear hrun hown hgr h hg hi hz0 hz1 hz2
  rcases hc with ⟨hv', hw⟩ | ⟨g', c', hv', hgl, hgb, hc1, hc2, hcell⟩
  · subst hw
    simp only [Value.slice.injEq] at hv'
    obtain ⟨rfl, -, rfl⟩ := hv'
    go_enter Try.func15, Try.ntmps15
    go_wp2_with (at_builtin; refine reg.wpList_append rfl rfl rfl rfl rfl HRUN.out ?_)
    go_ret
    exact ⟨_, rfl, HR.out⟩
  · simp only [Value.slice.injEq] at hv'
    obtain ⟨rfl, -, rfl⟩ := hv'
    unfold maxLen at hc2
    clear hcell
    go_enter Try.func15, Try.ntmps15
    go_wp2_with (at_builtin; refine reg.wpList_append rfl rfl rfl rfl rfl HRUN.out ?_)
    all_goals
      go_ret
      exact ⟨_, rfl, HR.out⟩
end Go.Proofs.Ytdbonbdgoekkcaa.mounts
