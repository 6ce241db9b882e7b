/-
  Proved: the statement PathJoins, as a contract. Conditions: as each theorem says.
-/
import Derived.Test.YtfmalomhmijciaaPathLaw
namespace Go.Proofs.Ytfmalomhmijciaa.path
open Go.RowKit Go.Shelf
open heap
set_option linter.unusedVariables false

set_option maxRecDepth 100000 in
set_option maxHeartbeats 4000000 in
theorem joins (cwd s : List UInt8) (w : World) (hc : cwd.length ≤ 9223372036854775806) (hs : s.length ≤ 9223372036854775806) :
    Calls Try.prog 6 #[sv cwd, sv s] w fun e w' => e = .returned (.bool true) ∧ Below w.heap.size w w' := by
  have HC := Lib.hid (fun W : World => Clean_any cwd s W hc hs)
  have HOK := Lib.hid (clean_ok cwd s)
  have HN := Lib.hid Num_any
  generalize cleanR cwd s = r at *
  obtain ⟨a, er⟩ := r
  simp only at HC HOK
  go_enter Try.func6, Try.ntmps6
  go_wp2_with fail
  (with_reducible refine (awake_any _).mono ?_); rintro e w1 ⟨rfl, hb1⟩
  have HB1 := Lib.hid hb1
  clear hb1
  go_wp2_with fail
  (with_reducible refine (HC.out _).mono ?_); rintro e w2 ⟨rfl, hb2⟩
  have HB2 : Hid (Below w.heap.size w w2) := HB1.out.trans (hb2.mono HB1.out.size)
  clear hb2
  by_cases he : er = 0
  · subst he
    obtain ⟨-, -, -, ws, -, haw, h8, h140, hg⟩ := HOK.out rfl
    subst haw
    have HG := Lib.hid hg
    have HP : Hid (∀ W : World, Calls Try.prog 10 #[sv (joinL ws)] W fun e w' => ∃ v, e = .returned v ∧ SRow w' W.heap.size v ws ∧ Below W.heap.size W w') := fun W => by
      have := Parts_any (joinL ws) W (by omega)
      rw [parts_join ws hg] at this
      exact this
    clear hg HOK HC
    go_wp2_with (go_at_call 9; refine (HN.out _ _).mono ?_; rintro e w' ⟨rfl, rfl⟩)
    (with_reducible refine (HP.out _).mono ?_); rintro e w3 ⟨v, rfl, hr3, hb3⟩
    obtain ⟨a3, c3, rfl⟩ := own_slice hr3
    have HB3 : Hid (Below w.heap.size w w3) := HB2.out.trans (hb3.mono HB2.out.size)
    have HR3 := Lib.hid hr3
    clear hr3 hb3
    go_wp2_with fail
    go_loopw [8, 9] (fun t i wr => ∃ j : Nat, j ≤ ws.length ∧ i = .int .i64 j ∧ t = sv (joinL (ws.take j)) ∧ Hid (SRow wr w2.heap.size (.slice a3 ws.length c3) ws ∧ Below w.heap.size w wr)) (fun _ i _ => ws.length - (intOf i).toNat)
    case atStart => exact ⟨0, by omega, rfl, rfl, HR3.out, HB3.out⟩
    case round =>
      obtain ⟨j, hj, rfl, rfl, HRB⟩ := hrel
      have hjl := join_take_le ws j
      by_cases hlt : j < ws.length
      · rcases HRB.out.1.cells with ⟨-, hw⟩ | ⟨g, c', hv', hgl, hc1, hc2, hcell⟩
        · rw [hw] at hlt; simp at hlt
        · simp only [Value.slice.injEq] at hv'
          obtain ⟨rfl, -, rfl⟩ := hv'
          obtain ⟨p, hp⟩ : ∃ p, ws[j]? = some p := ⟨_, List.getElem?_eq_getElem hlt⟩
          have hcp := hcell j p hp
          have hgp := HG.out p (List.mem_of_getElem? hp)
          have hpl := (good_no hgp).2.2.2.2
          have HNM : Hid (∀ W : World, Calls Try.prog 15 #[sv p] W fun e w' => e = .returned (.int .i64 0) ∧ Below W.heap.size W w') := fun W => by
            have := Name_any p W (by omega)
            rw [hgp] at this; exact this
          obtain ⟨hb, hne⟩ := join_below ws j HG.out hlt
          have HBE : Hid (∀ W : World, Calls Try.prog 17 #[sv (joinL ws), sv (joinL (ws.take j))] W fun e w' => e = .returned (.bool true) ∧ Below W.heap.size W w') := fun W => by
            have := Below_any (joinL ws) (joinL (ws.take j)) W (by omega)
            rw [hb] at this; exact this
          have HJO : Hid (∀ W : World, Calls Try.prog 19 #[sv (joinL (ws.take j)), sv p] W fun e w' => e = .returned (sv (joinL (ws.take (j + 1)))) ∧ Below W.heap.size W w') := fun W => by
            have := pJoin_any (joinL (ws.take j)) p W (by omega)
            rw [join_step ws j p HG.out hp] at this; exact this
          have hneb : (joinL (ws.take j) == joinL ws) = false := by rw [beq_eq_false_iff_ne]; exact hne
          have hji : (j : Int) < ws.length := by omega
          unfold maxLen at hc2
          clear hcell hgp hb hne hp hgl
          generalize joinL (ws.take j) = tj at *
          generalize joinL ws = A at *
          go_wp2_with fail
          (with_reducible refine (HNM.out _).mono ?_); rintro e w4 ⟨rfl, hb4⟩
          have HRB4 : Hid (SRow w4 w2.heap.size (.slice (some ⟨g, 0, none⟩) ws.length c3) ws ∧ Below w.heap.size w w4) := ⟨HRB.out.1.below hb4, HRB.out.2.trans (hb4.mono HRB.out.2.size)⟩
          have hcp4 : w4.cell? ⟨g, j, none⟩ = some (sv p) := (hb4.cell (World.block_lt_of_cell? _ _ hcp)).trans hcp
          clear hb4 hcp HRB
          go_wp2_with (go_at_call 9; refine (HN.out _ _).mono ?_; rintro e w' ⟨rfl, rfl⟩)
          (with_reducible refine (HBE.out _).mono ?_); rintro e w5 ⟨rfl, hb5⟩
          have HRB5 : Hid (SRow w5 w2.heap.size (.slice (some ⟨g, 0, none⟩) ws.length c3) ws ∧ Below w.heap.size w w5) := ⟨HRB4.out.1.below hb5, HRB4.out.2.trans (hb5.mono HRB4.out.2.size)⟩
          have hcp5 : w5.cell? ⟨g, j, none⟩ = some (sv p) := (hb5.cell (World.block_lt_of_cell? _ _ hcp4)).trans hcp4
          clear hb5 hcp4 HRB4
          go_wp2_with fail
          (with_reducible refine (HJO.out _).mono ?_); rintro e w6 ⟨rfl, hb6⟩
          have HRB6 : Hid (SRow w6 w2.heap.size (.slice (some ⟨g, 0, none⟩) ws.length c3) ws ∧ Below w.heap.size w w6) := ⟨HRB5.out.1.below hb6, HRB5.out.2.trans (hb6.mono HRB5.out.2.size)⟩
          clear hb6 hcp5 HRB5
          go_wp2_with fail
          go_roundw
          case rel => exact ⟨j + 1, by omega, by go_num, rfl, HRB6⟩
          case measure => simp [intOf]; omega
      · obtain rfl : j = ws.length := by omega
        rw [List.take_length]
        obtain ⟨e1, e2, e3⟩ := end_below (joinL ws)
        have hpj : (pJoin (joinL ws) [120]).length ≤ 200 := by
          unfold pJoin
          split <;> (simp; omega)
        have HJ1 : Hid (∀ W : World, Calls Try.prog 19 #[sv (joinL ws), .string ⟨#[120]⟩] W fun e w' => e = .returned (sv (pJoin (joinL ws) [120])) ∧ Below W.heap.size W w') := fun W => pJoin_any (joinL ws) [120] W (by simp; omega)
        have HE1 : Hid (∀ W : World, Calls Try.prog 17 #[sv (pJoin (joinL ws) [120]), sv (joinL ws)] W fun e w' => e = .returned (.bool true) ∧ Below W.heap.size W w') := fun W => by
          have := Below_any (pJoin (joinL ws) [120]) (joinL ws) W (by omega)
          rw [e1] at this; exact this
        have HE2 : Hid (∀ W : World, Calls Try.prog 17 #[sv (joinL ws), sv (pJoin (joinL ws) [120])] W fun e w' => e = .returned (.bool false) ∧ Below W.heap.size W w') := fun W => by
          have := Below_any (joinL ws) (pJoin (joinL ws) [120]) W (by omega)
          rw [e2] at this; exact this
        have HE3 : Hid (∀ W : World, Calls Try.prog 17 #[sv (joinL ws), .string ⟨#[]⟩] W fun e w' => e = .returned (.bool true) ∧ Below W.heap.size W w') := fun W => by
          have := Below_any (joinL ws) [] W (by decide)
          rw [e3] at this; exact this
        have HB : Hid (Below w.heap.size w wr) := HRB.out.2
        clear e1 e2 e3 HRB hpj
        generalize pJoin (joinL ws) [120] = B at *
        generalize joinL ws = A at *
        go_wp2_with fail
        (with_reducible refine (HJ1.out _).mono ?_); rintro e w4 ⟨rfl, hb4⟩
        have HB4 : Hid (Below w.heap.size w w4) := HB.out.trans (hb4.mono HB.out.size)
        clear hb4
        go_wp2_with fail
        (with_reducible refine (HE1.out _).mono ?_); rintro e w5 ⟨rfl, hb5⟩
        have HB5 : Hid (Below w.heap.size w w5) := HB4.out.trans (hb5.mono HB4.out.size)
        clear hb5
        go_wp2_with fail
        (with_reducible refine (HJ1.out _).mono ?_); rintro e w6 ⟨rfl, hb6⟩
        have HB6 : Hid (Below w.heap.size w w6) := HB5.out.trans (hb6.mono HB5.out.size)
        clear hb6
        go_wp2_with fail
        (with_reducible refine (HE2.out _).mono ?_); rintro e w7 ⟨rfl, hb7⟩
        have HB7 : Hid (Below w.heap.size w w7) := HB6.out.trans (hb7.mono HB6.out.size)
        clear hb7
        go_wp2_with fail
        (with_reducible refine (HE3.out _).mono ?_); rintro e w8 ⟨rfl, hb8⟩
        have HB8 : Hid (Below w.heap.size w w8) := HB7.out.trans (hb8.mono HB7.out.size)
        clear hb8
        go_wp2_with fail
        go_ret
        exact ⟨rfl, HB8.out⟩
  · have hne : (er != 0) = true := by rw [bne_iff_ne]; exact he
    clear he HOK
    go_wp2_with (go_at_call 9; refine (HN.out _ _).mono ?_; rintro e w' ⟨rfl, rfl⟩)
    go_ret
    exact ⟨rfl, HB2.out⟩
end Go.Proofs.Ytfmalomhmijciaa.path
