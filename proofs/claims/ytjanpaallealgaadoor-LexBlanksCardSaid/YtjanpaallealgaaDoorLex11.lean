/-
  Proved: that awake of the lexer's laws says true. Conditions: as each theorem says.
-/
import Derived.Test.YtjanpaallealgaaDoorLex10
namespace Go.Proofs.YtjanpaallealgaaDoor.lex
open Go.RowKit
open heap
set_option linter.unusedVariables false
set_option maxRecDepth 100000

theorem Num_any (n : Int) (w : World) : Calls Tryd.prog 7 #[.int .i64 n] w fun e w' => e = .returned (.int .i64 n) ∧ w = w' := by
  go_enter Tryd.func7, Tryd.ntmps7
  go_wp2
  go_ret
  exact ⟨rfl, rfl⟩
theorem tok_one : scanL [115, 101, 116, 32, 120, 32, 61, 32, 34, 97, 92, 110, 34, 32, 35, 32, 99] = ([⟨1, [115, 101, 116], 0, 0⟩, ⟨1, [120], 0, 4⟩, ⟨4, [61], 0, 6⟩, ⟨3, [97, 10], 0, 8⟩, ⟨0, [], 0, 17⟩], 0, 0) := by decide +kernel
theorem tok_two : (scanL [97, 32, 36]).2 = (2, 1800) := by decide +kernel
set_option maxHeartbeats 1000000 in
theorem awake_any (w : World) (htab : Lib.TabIs Tryd.prog w "strings.asciiSpace" .u8 Lib.asciiSpaceTab) : Calls Tryd.prog 5 #[] w fun e w' => e = .returned (.bool true) ∧ Below w.heap.size w w' := by
  have H1 : Hid (Calls Tryd.prog 6 #[.string ⟨#[115, 101, 116, 32, 120, 32, 61, 32, 34, 97, 92, 110, 34, 32, 35, 32, 99]⟩] w fun e w' => ∃ g c, e = .returned (.tuple #[.slice (some ⟨g, 0, none⟩) 5 c, .int .i64 0, .int .i64 0]) ∧ 5 ≤ c ∧ c ≤ maxLen ∧
      w'.cell? ⟨g, 12, none⟩ = some (.int .i64 3) ∧ w'.cell? ⟨g, 13, none⟩ = some (.string ⟨#[97, 10]⟩) ∧ w'.cell? ⟨g, 16, none⟩ = some (.int .i64 0) ∧ w'.cell? ⟨g, 19, none⟩ = some (.int .i64 17) ∧ Below w.heap.size w w') := by
    refine (Tokens_any ⟨#[115, 101, 116, 32, 120, 32, 61, 32, 34, 97, 92, 110, 34, 32, 35, 32, 99]⟩ w (by decide) htab).mono ?_
    rintro e w' ⟨v, rfl, h1, -, hb⟩
    rw [tok_one] at h1 ⊢
    rcases (h1 rfl).cells with ⟨-, h2⟩ | ⟨g, c, rfl, h3, h4, h5, h6, h7⟩
    · cases h2
    · have k3 := h7 3 _ rfl
      have k4 := h7 4 _ rfl
      exact ⟨g, c, rfl, h5, h6, k3.1, k3.2.1, k4.1, k4.2.2.2, hb⟩
  have H2 : Hid (∀ W, Below w.heap.size w W → Calls Tryd.prog 6 #[.string ⟨#[97, 32, 36]⟩] W fun e w' => e = .returned (.tuple #[.slice none 0 0, .int .i64 2, .int .i64 1800]) ∧ Below W.heap.size W w') := by
    intro W hW
    refine (Tokens_any ⟨#[97, 32, 36]⟩ W (by decide) (tab_below htab hW)).mono ?_
    rintro e w' ⟨v, rfl, -, h1, hb⟩
    rw [tok_two] at h1 ⊢
    obtain rfl := h1 (by decide)
    exact ⟨rfl, hb⟩
  clear htab
  go_enter Tryd.func5, Tryd.ntmps5
  go_wp2_with fail
  refine H1.out.mono ?_; rintro e w1 ⟨g, c, rfl, hc1, hc2, k1, k2, k3, k4, hb1⟩
  have HB1 := Lib.hid hb1
  have hg1 : g < w1.heap.size := World.block_lt_of_cell? w1 ⟨g, 12, none⟩ k1
  clear hb1
  go_wp2_with fail
  refine (H2.out _ HB1.out).mono ?_; rintro e w2 ⟨rfl, hb2⟩
  have j1 := (hb2.cell (p := ⟨g, 12, none⟩) hg1).trans k1
  have j2 := (hb2.cell (p := ⟨g, 13, none⟩) hg1).trans k2
  have j3 := (hb2.cell (p := ⟨g, 16, none⟩) hg1).trans k3
  have j4 := (hb2.cell (p := ⟨g, 19, none⟩) hg1).trans k4
  have HB2 := Lib.hid (HB1.out.trans (hb2.mono HB1.out.size))
  clear hb2 k1 k2 k3 k4 HB1 H1 H2
  unfold maxLen at hc2
  go_wp2_with (go_at_call 7; refine (Num_any _ _).mono ?_; rintro e w' ⟨rfl, rfl⟩)
  all_goals
    first | go_ret | go_ret2
    exact ⟨rfl, HB2.out⟩
end Go.Proofs.YtjanpaallealgaaDoor.lex
