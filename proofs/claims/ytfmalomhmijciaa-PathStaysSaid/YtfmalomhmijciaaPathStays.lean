/-
  Proved: the statement PathStays, as a contract. Conditions: as each theorem says.
-/
import Derived.Test.YtfmalomhmijciaaPathJoins
import Derived.Test.YtfmalomhmijciaaPathDeep
namespace Go.Proofs.Ytfmalomhmijciaa.path
open Go.RowKit Go.Shelf
open heap
set_option linter.unusedVariables false

set_option maxRecDepth 100000 in
set_option maxHeartbeats 4000000 in
theorem stays (cwd s : List UInt8) (up : Int) (w : World) (hc : cwd.length ≤ 9223372036854775806) (hs : s.length ≤ 9223372036854775806) :
    Calls Try.prog 5 #[sv cwd, sv s, .int .i64 up] w fun e w' => e = .returned (.bool true) ∧ Below w.heap.size w w' := by
  obtain ⟨k, hk, ek⟩ := and_lt up 31 (by omega)
  have ek' : bits .and .i64 up 31 = (k : Int) := ek
  clear ek
  have HC := Lib.hid (fun W : World => Clean_any cwd s W hc hs)
  have HOK := Lib.hid (clean_ok cwd s)
  have HNO := Lib.hid (clean_no cwd s)
  have HN := Lib.hid Num_any
  generalize cleanR cwd s = r at *
  obtain ⟨a, er⟩ := r
  simp only at HC HOK HNO
  go_enter Try.func5, Try.ntmps5
  go_wp2_with fail
  (with_reducible refine (awake_any _).mono ?_); rintro e w1 ⟨rfl, hb1⟩
  have HB1 := Lib.hid hb1
  clear hb1
  go_wp2_with fail
  (with_reducible refine (HC.out _).mono ?_); rintro e w2 ⟨rfl, hb2⟩
  have HB2 : Hid (Below w.heap.size w w2) := HB1.out.trans (hb2.mono HB1.out.size)
  clear hb2
  by_cases he : er = 0
  · subst he
    obtain ⟨hcl, hs0, hs560, ws, hway, haw, h8, h140, hg⟩ := HOK.out rfl
    subst haw
    have HG := Lib.hid hg
    have HP : Hid (∀ W : World, Calls Try.prog 10 #[sv (joinL ws)] W fun e w' => ∃ v, e = .returned v ∧ SRow w' W.heap.size v ws ∧ Below W.heap.size W w') := fun W => by
      have := Parts_any (joinL ws) W (by omega)
      rw [parts_join ws hg] at this
      exact this
    have HC1 : Hid (∀ W : World, Calls Try.prog 8 #[sv cwd, sv (47 :: joinL ws)] W fun e w' => e = .returned (.tuple #[sv (joinL ws), .int .i64 0]) ∧ Below W.heap.size W w') := fun W => by
      have := Clean_any cwd (47 :: joinL ws) W hc (by simp; omega)
      rw [clean_root cwd ws hcl hg h8 h140] at this
      exact this
    have HC2 : Hid (∀ W : World, Calls Try.prog 8 #[sv (joinL ws), .string ⟨#[46]⟩] W fun e w' => e = .returned (.tuple #[sv (joinL ws), .int .i64 0]) ∧ Below W.heap.size W w') := fun W => by
      have := Clean_any (joinL ws) [46] W (by omega) (by decide)
      rw [clean_dot ws hg h8 h140] at this
      exact this
    have hj1 : (⟨#[47]⟩ : ByteArray) ++ ⟨(joinL ws).toArray⟩ = ⟨(47 :: joinL ws).toArray⟩ := join_s [47] (joinL ws)
    have za : (⟨(joinL ws).toArray⟩ : ByteArray).size ≤ 140 := by rw [str_size]; omega
    have HLONG : Hid (560 < (s ++ upS k).length → cleanR cwd (s ++ upS k) = ([], 403)) := fun h => clean_long cwd _ hcl (by simp [hs0]) h
    have HUP : Hid ((s ++ upS k).length ≤ 560 → cleanR cwd (s ++ upS k) = (joinL (ws.take (ws.length - k)), 0)) := fun h => clean_up cwd s ws k hcl hs0 h hway h8 (Nat.le_trans (join_take_le _ _) h140)
    have hpa := fun j => join_take_le ws j
    have HPA := Lib.hid hpa
    have hwl : ws.length ≤ 8 := h8
    clear hg HOK HC HNO hcl hs0 hway hpa
    go_wp2_with (go_at_call 9; refine (HN.out _ _).mono ?_; rintro e w' ⟨rfl, rfl⟩)
    (with_reducible refine (HC1.out _).mono ?_); rintro e w3 ⟨rfl, hb3⟩
    have HB3 : Hid (Below w.heap.size w w3) := HB2.out.trans (hb3.mono HB2.out.size)
    clear hb3
    go_wp2_with fail
    (with_reducible refine (HC2.out _).mono ?_); rintro e w4 ⟨rfl, hb4⟩
    have HB4 : Hid (Below w.heap.size w w4) := HB3.out.trans (hb4.mono HB3.out.size)
    clear hb4 hj1
    have hu0 : s = s ++ upS 0 := by simp [upS]
    have HU0 := Lib.hid hu0
    clear hu0
    go_wp2_with fail
    go_loopw [13, 15] (fun t i wr => ∃ j : Nat, j ≤ k ∧ i = .int .i64 j ∧ t = sv (s ++ upS j) ∧ Hid (w4 = wr)) (fun _ i _ => k - (intOf i).toNat)
    case atStart => exact ⟨0, by omega, rfl, by rw [← HU0.out], rfl⟩
    case round =>
      obtain ⟨j, hj, rfl, rfl, HW⟩ := hrel
      have hul := upS_len j
      have zl : (s ++ upS j).length ≤ 660 := by simp; omega
      have zs : (⟨(s ++ upS j).toArray⟩ : ByteArray).size ≤ 660 := by rw [str_size]; exact zl
      clear hul
      by_cases hlt : j < k
      · have hj2 : (⟨(s ++ upS j).toArray⟩ : ByteArray) ++ ⟨#[47, 46, 46]⟩ = ⟨(s ++ upS (j + 1)).toArray⟩ := by have := join_s (s ++ upS j) [47, 46, 46]; rwa [List.append_assoc] at this
        have hji : (j : Int) < k := by omega
        generalize hM : s ++ upS j = M at *
        generalize hM2 : s ++ upS (j + 1) = M2 at *
        have HM2 := Lib.hid hM2
        clear hM hM2
        go_wp2_with fail
        go_roundw
        case rel => exact ⟨j + 1, by omega, by go_num, by rw [HM2.out], HW⟩
        case measure => simp [intOf]; omega
      · obtain rfl : j = k := by omega
        obtain rfl := HW.out
        clear HW hlt
        have HC3 := Lib.hid (fun W : World => Clean_any cwd (s ++ upS j) W hc (by omega))
        by_cases hbig : 560 < (s ++ upS j).length
        · have hr := HLONG.out hbig
          rw [hr] at HC3
          clear hr HLONG HUP
          generalize hM : s ++ upS j = M at *
          clear hM
          go_wp2_with fail
          (with_reducible refine (HC3.out _).mono ?_); rintro e w5 ⟨rfl, hb5⟩
          have HB5 : Hid (Below w.heap.size w w5) := HB4.out.trans (hb5.mono HB4.out.size)
          clear hb5
          go_wp2_with fail
          (with_reducible refine (HP.out _).mono ?_); rintro e w6 ⟨v, rfl, hr6, hb6⟩
          have HB6 : Hid (Below w.heap.size w w6) := HB5.out.trans (hb6.mono HB5.out.size)
          clear hb6 hr6
          go_wp2_with (go_at_call 9; refine (HN.out _ _).mono ?_; rintro e w' ⟨rfl, rfl⟩)
          go_ret
          exact ⟨rfl, HB6.out⟩
        · have hr := HUP.out (by omega)
          rw [hr] at HC3
          clear hr HLONG HUP
          generalize hM : s ++ upS j = M at *
          clear hM
          go_wp2_with fail
          (with_reducible refine (HC3.out _).mono ?_); rintro e w5 ⟨rfl, hb5⟩
          have HB5 : Hid (Below w.heap.size w w5) := HB4.out.trans (hb5.mono HB4.out.size)
          clear hb5
          go_wp2_with fail
          (with_reducible refine (HP.out _).mono ?_); rintro e w6 ⟨v, rfl, hr6, hb6⟩
          obtain ⟨a6, c6, rfl⟩ := own_slice hr6
          have HB6 : Hid (Below w.heap.size w w6) := HB5.out.trans (hb6.mono HB5.out.size)
          have HR6 := Lib.hid hr6
          clear hb6 hr6
          go_wp2_with fail
          go_loopw [19, 20] (fun t i wr => ∃ m : Nat, m ≤ ws.length - j ∧ i = .int .i64 m ∧ t = sv (joinL (ws.take m)) ∧ Hid (SRow wr w5.heap.size (.slice a6 ws.length c6) ws ∧ Below w.heap.size w wr)) (fun _ i _ => ws.length - j - (intOf i).toNat)
          case atStart => exact ⟨0, by omega, rfl, rfl, HR6.out, HB6.out⟩
          case round =>
            obtain ⟨m, hm, rfl, rfl, HRB⟩ := hrel
            have hjl := HPA.out m
            by_cases hlt : m + j < ws.length
            · rcases HRB.out.1.cells with ⟨-, hw⟩ | ⟨g, c', hv', hgl, hc1, hc2, hcell⟩
              · rw [hw] at hlt; simp at hlt
              · simp only [Value.slice.injEq] at hv'
                obtain ⟨rfl, -, rfl⟩ := hv'
                have hml : m < ws.length := by omega
                obtain ⟨p, hp⟩ : ∃ p, ws[m]? = some p := ⟨_, List.getElem?_eq_getElem hml⟩
                have hcp := hcell m p hp
                have hgp := HG.out p (List.mem_of_getElem? hp)
                have hpl := (good_no hgp).2.2.2.2
                have HJO : Hid (∀ W : World, Calls Try.prog 19 #[sv (joinL (ws.take m)), sv p] W fun e w' => e = .returned (sv (joinL (ws.take (m + 1)))) ∧ Below W.heap.size W w') := fun W => by
                  have := pJoin_any (joinL (ws.take m)) p W (by omega)
                  rw [join_step ws m p HG.out hp] at this; exact this
                have hji : (m : Int) < ws.length := by omega
                unfold maxLen at hc2
                clear hcell hgp hp hgl
                go_wp2_with fail
                (with_reducible refine (HJO.out _).mono ?_); rintro e w7 ⟨rfl, hb7⟩
                have HRB7 : Hid (SRow w7 w5.heap.size (.slice (some ⟨g, 0, none⟩) ws.length c6) ws ∧ Below w.heap.size w w7) := ⟨HRB.out.1.below hb7, HRB.out.2.trans (hb7.mono HRB.out.2.size)⟩
                clear hb7 hcp HRB
                go_wp2_with fail
                go_roundw
                case rel => exact ⟨m + 1, by omega, by go_num, rfl, HRB7⟩
                case measure => simp [intOf]; omega
            · obtain rfl : m = ws.length - j := by omega
              have HB : Hid (Below w.heap.size w wr) := HRB.out.2
              have hd8 : decide ((ws.length : Int) ≤ 8) = true := by simp; omega
              clear HRB
              generalize joinL (ws.take (ws.length - j)) = Wt at *
              generalize joinL ws = A at *
              go_wp2_with (go_at_call 9; refine (HN.out _ _).mono ?_; rintro e w' ⟨rfl, rfl⟩)
              go_ret
              exact ⟨rfl, HB.out⟩
  · have hne : (er != 0) = true := by rw [bne_iff_ne]; exact he
    have ha : a = [] := HNO.out he
    subst ha
    clear he HOK HNO
    go_wp2_with (go_at_call 9; refine (HN.out _ _).mono ?_; rintro e w' ⟨rfl, rfl⟩)
    go_ret
    exact ⟨rfl, HB2.out⟩
end Go.Proofs.Ytfmalomhmijciaa.path
