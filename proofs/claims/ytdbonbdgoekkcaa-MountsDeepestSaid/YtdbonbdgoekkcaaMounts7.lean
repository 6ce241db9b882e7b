/-
  Proved: that awake says true. Conditions: as each theorem says.
-/
import Derived.Test.YtdbonbdgoekkcaaMounts6
namespace Go.Proofs.Ytdbonbdgoekkcaa.mounts
open Go.RowKit Go.Shelf
open heap path
set_option linter.unusedVariables false

abbrev mA : Mt := ⟨[97, 47, 98], [99], true⟩
abbrev mB : Mt := ⟨[97], [97, 47, 120], false⟩
theorem mayA : MayAdd [] mA := ⟨by decide +kernel, by decide +kernel, by decide +kernel, by decide +kernel, by decide +kernel, by decide +kernel, by decide +kernel, by decide +kernel, by decide +kernel⟩
theorem walkA : walkR [mA] [97, 47, 98, 47, 100] = ([99, 47, 100], true) := by decide +kernel
set_option maxRecDepth 100000 in
set_option maxHeartbeats 1000000 in
theorem awake_any (w : World) : Calls Try.prog 4 #[] w fun e w' => e = .returned (.bool true) ∧ Below w.heap.size w w' := by
  have HN := Lib.hid Num_any
  have HWK := Lib.hid walkA
  go_enter Try.func4, Try.ntmps4
  go_wp2_with fail
  (with_reducible refine (New_any _).mono ?_); rintro e w1 ⟨rfl, ht1, hb1⟩
  have HT1 := Lib.hid ht1
  have HB1 := Lib.hid hb1
  clear ht1 hb1
  go_wp2_with fail
  refine (Add_ok w.heap.size (w.heap.size + 1) [] mA w1 HT1.out mayA).mono ?_; rintro e w2 ⟨rfl, ht2, hb2⟩
  have HT2 := Lib.hid ht2
  have HB2 : Hid (Below w.heap.size w w2) := HB1.out.trans hb2
  clear ht2 hb2
  go_wp2_with fail
  refine (Add_below w.heap.size (w.heap.size + 1) [mA] mB w2 HT2.out (by decide) (by decide +kernel) (by decide +kernel) (by decide +kernel) (by decide +kernel) (by decide +kernel) (by decide) (by decide)).mono ?_; rintro e w3 ⟨rfl, hb3⟩
  have HT3 := Lib.hid (HT2.out.below hb3)
  have HB3 : Hid (Below w.heap.size w w3) := HB2.out.trans (hb3.mono HB2.out.size)
  clear hb3
  go_wp2_with fail
  refine (Walk_any w.heap.size (w.heap.size + 1) [mA] [97, 47, 98, 47, 100] w3 HT3.out (by decide) (by decide) (by intro m hm; obtain rfl := List.mem_singleton.1 hm; exact ⟨by decide, by decide⟩)).mono ?_; rintro e w4 ⟨rfl, hb4⟩
  have HT4 := Lib.hid (HT3.out.below hb4)
  have HB4 : Hid (Below w.heap.size w w4) := HB3.out.trans (hb4.mono HB3.out.size)
  clear hb4
  rw [HWK.out]
  go_wp2_with fail
  refine (Remove_no w.heap.size (w.heap.size + 1) [mA] [122, 122] w4 HT4.out (by decide) (by decide +kernel)).mono ?_; rintro e w5 ⟨rfl, hb5⟩
  have HT5 := Lib.hid (HT4.out.below hb5)
  have HB5 : Hid (Below w.heap.size w w5) := HB4.out.trans (hb5.mono HB4.out.size)
  clear hb5
  go_wp2_with (go_at_call 8; refine (HN.out _ _).mono ?_; rintro e w' ⟨rfl, rfl⟩)
  refine (List_any w.heap.size (w.heap.size + 1) [mA] w5 HT5.out (by simp) (by decide)).mono ?_; rintro e w6 ⟨⟨a2, c2, rfl⟩, hb6⟩
  have HB6 : Hid (Below w.heap.size w w6) := HB5.out.trans (hb6.mono HB5.out.size)
  clear hb6
  go_wp2_with fail
  go_ret
  exact ⟨rfl, HB6.out⟩
end Go.Proofs.Ytdbonbdgoekkcaa.mounts
