/-
  Proved: the statement MountsDeepest, as a contract. Conditions: as each theorem says.
-/
import Derived.Test.YtdbonbdgoekkcaaMounts8
namespace Go.Proofs.Ytdbonbdgoekkcaa.mounts
open Go.RowKit Go.Shelf
open heap path
set_option linter.unusedVariables false

theorem deep2 (kk : Nat) (h : 2 < 1 + kk) (h4 : 1 + kk < 5) : walkR (tabI (1 + kk)) (dP (2 + 1) ++ [47, 120]) = ([109, 50, 47, 120], false) := by
  have : ∀ k : Fin 5, 2 < k.val → walkR (tabI k.val) (dP (2 + 1) ++ [47, 120]) = ([109, 50, 47, 120], false) := by decide +kernel
  exact this ⟨1 + kk, h4⟩ h
theorem deep3 (kk : Nat) (h : 3 < 1 + kk) (h4 : 1 + kk < 5) : walkR (tabI (1 + kk)) (dP (3 + 1) ++ [47, 120]) = ([109, 51, 47, 120], true) := by
  have : ∀ k : Fin 5, 3 < k.val → walkR (tabI k.val) (dP (3 + 1) ++ [47, 120]) = ([109, 51, 47, 120], true) := by decide +kernel
  exact this ⟨1 + kk, h4⟩ h
set_option maxRecDepth 100000 in
set_option maxHeartbeats 4000000 in
theorem deepest (deep at0 : Int) (w : World) :
    Calls Try.prog 3 #[.int .i64 deep, .int .i64 at0] w fun e w' => e = .returned (.bool true) ∧ Below w.heap.size w w' := by
  obtain ⟨kk, hkk, ek⟩ := and_lt deep 3 (by omega)
  obtain ⟨ii, hii, ei⟩ := and_lt at0 3 (by omega)
  have ek' : bits .and .i64 deep 3 = (kk : Int) := ek
  have ei' : bits .and .i64 at0 3 = (ii : Int) := ei
  clear ek ei
  have HN := Lib.hid Num_any
  go_enter Try.func3, Try.ntmps3
  go_wp2_with fail
  (with_reducible refine (awake_any _).mono ?_); rintro e w0 ⟨rfl, hb0⟩
  have HB0 := Lib.hid hb0
  clear hb0
  go_wp2_with fail
  (with_reducible refine (New_any _).mono ?_); rintro e w1 ⟨rfl, ht1, hb1⟩
  have HT1 := Lib.hid ht1
  have HB1 : Hid (Below w.heap.size w w1) := HB0.out.trans (hb1.mono HB0.out.size)
  have hpw : w.heap.size ≤ w0.heap.size := HB0.out.size
  clear ht1 hb1
  generalize w0.heap.size = p at *
  go_wp2_with fail
  go_loopw [7, 8] (fun vp vi wr => ∃ j : Nat, j ≤ 1 + kk ∧ vi = .int .i64 j ∧ vp = sv (dP j) ∧ Hid (MTab wr p (p + 1) (tabI j) ∧ Below w.heap.size w wr)) (fun _ vi _ => 1 + kk - (intOf vi).toNat)
  case atStart => exact ⟨0, by omega, rfl, rfl, HT1.out, HB1.out⟩
  case round =>
    obtain ⟨j, hj, rfl, rfl, HH⟩ := hrel
    by_cases hlt : j < 1 + kk
    · rcases (show j = 0 ∨ j = 1 ∨ j = 2 ∨ j = 3 by omega) with rfl | rfl | rfl | rfl
      · have hjk : (0 : Int) < 1 + kk := by omega
        have HD : Hid (∀ W : World, Calls Try.prog 7 #[.int .i64 0] W fun e w' => e = .returned (sv [48]) ∧ Below W.heap.size W w') := fun W => Decimal_one 0 (by omega) W
        have HAD : Hid (∀ W : World, MTab W p (p + 1) (tabI 0) → Calls Try.prog 6 #[P p, .agg #[.string ⟨#[100]⟩, .string ⟨#[109, 48]⟩, .bool false]] W fun e w' => e = .returned (.int .i64 0) ∧ MTab w' p (p + 1) (tabI 1) ∧ Below p W w') := fun W h => Add_ok p (p + 1) (tabI 0) (mI 0) W h (may 0 (by omega))
        have c1 : (⟨#[109]⟩ : ByteArray) ++ ⟨#[48]⟩ = ⟨#[109, 48]⟩ := join_s [109] [48]
        have c2 : (⟨#[]⟩ : ByteArray) ++ ⟨#[100]⟩ = ⟨#[100]⟩ := join_s [] [100]
        have hp0 : sv (dP 0) = .string ⟨#[]⟩ := rfl
        rw [hp0]
        clear hp0
        go_wp2_with fail
        (with_reducible refine (HD.out _).mono ?_); rintro e w2 ⟨rfl, hb2⟩
        have HT2 := Lib.hid (HH.out.1.below hb2)
        have HB2 : Hid (Below w.heap.size w w2) := HH.out.2.trans (hb2.mono HH.out.2.size)
        clear hb2
        go_wp2_with fail
        (with_reducible refine (HAD.out _ HT2.out).mono ?_); rintro e w3 ⟨rfl, ht3, hb3⟩
        have HF : Hid (MTab w3 p (p + 1) (tabI 1) ∧ Below w.heap.size w w3) := ⟨ht3, HB2.out.trans (hb3.mono hpw)⟩
        clear ht3 hb3
        go_wp2_with (go_at_call 8; refine (HN.out _ _).mono ?_; rintro e w' ⟨rfl, rfl⟩)
        go_roundw
        case rel => exact ⟨1, by omega, by first | rfl | go_num, rfl, HF⟩
        case measure => first | (simp [intOf]; done) | (simp [intOf]; omega)
      · have hjk : (1 : Int) < 1 + kk := by omega
        have HD : Hid (∀ W : World, Calls Try.prog 7 #[.int .i64 1] W fun e w' => e = .returned (sv [49]) ∧ Below W.heap.size W w') := fun W => Decimal_one 1 (by omega) W
        have HAD : Hid (∀ W : World, MTab W p (p + 1) (tabI 1) → Calls Try.prog 6 #[P p, .agg #[.string ⟨#[100, 47, 100]⟩, .string ⟨#[109, 49]⟩, .bool true]] W fun e w' => e = .returned (.int .i64 0) ∧ MTab w' p (p + 1) (tabI 2) ∧ Below p W w') := fun W h => Add_ok p (p + 1) (tabI 1) (mI 1) W h (may 1 (by omega))
        have c1 : (⟨#[109]⟩ : ByteArray) ++ ⟨#[49]⟩ = ⟨#[109, 49]⟩ := join_s [109] [49]
        have c2 : (⟨#[100]⟩ : ByteArray) ++ ⟨#[47]⟩ = ⟨#[100, 47]⟩ := join_s [100] [47]
        have c3 : (⟨#[100, 47]⟩ : ByteArray) ++ ⟨#[100]⟩ = ⟨#[100, 47, 100]⟩ := join_s [100, 47] [100]
        have hp0 : sv (dP 1) = .string ⟨#[100]⟩ := rfl
        rw [hp0]
        clear hp0
        go_wp2_with fail
        (with_reducible refine (HD.out _).mono ?_); rintro e w2 ⟨rfl, hb2⟩
        have HT2 := Lib.hid (HH.out.1.below hb2)
        have HB2 : Hid (Below w.heap.size w w2) := HH.out.2.trans (hb2.mono HH.out.2.size)
        clear hb2
        go_wp2_with fail
        (with_reducible refine (HAD.out _ HT2.out).mono ?_); rintro e w3 ⟨rfl, ht3, hb3⟩
        have HF : Hid (MTab w3 p (p + 1) (tabI 2) ∧ Below w.heap.size w w3) := ⟨ht3, HB2.out.trans (hb3.mono hpw)⟩
        clear ht3 hb3
        go_wp2_with (go_at_call 8; refine (HN.out _ _).mono ?_; rintro e w' ⟨rfl, rfl⟩)
        go_roundw
        case rel => exact ⟨2, by omega, by first | rfl | go_num, rfl, HF⟩
        case measure => first | (simp [intOf]; done) | (simp [intOf]; omega)
      · have hjk : (2 : Int) < 1 + kk := by omega
        have HD : Hid (∀ W : World, Calls Try.prog 7 #[.int .i64 2] W fun e w' => e = .returned (sv [50]) ∧ Below W.heap.size W w') := fun W => Decimal_one 2 (by omega) W
        have HAD : Hid (∀ W : World, MTab W p (p + 1) (tabI 2) → Calls Try.prog 6 #[P p, .agg #[.string ⟨#[100, 47, 100, 47, 100]⟩, .string ⟨#[109, 50]⟩, .bool false]] W fun e w' => e = .returned (.int .i64 0) ∧ MTab w' p (p + 1) (tabI 3) ∧ Below p W w') := fun W h => Add_ok p (p + 1) (tabI 2) (mI 2) W h (may 2 (by omega))
        have c1 : (⟨#[109]⟩ : ByteArray) ++ ⟨#[50]⟩ = ⟨#[109, 50]⟩ := join_s [109] [50]
        have c2 : (⟨#[100, 47, 100]⟩ : ByteArray) ++ ⟨#[47]⟩ = ⟨#[100, 47, 100, 47]⟩ := join_s [100, 47, 100] [47]
        have c3 : (⟨#[100, 47, 100, 47]⟩ : ByteArray) ++ ⟨#[100]⟩ = ⟨#[100, 47, 100, 47, 100]⟩ := join_s [100, 47, 100, 47] [100]
        have hp0 : sv (dP 2) = .string ⟨#[100, 47, 100]⟩ := rfl
        rw [hp0]
        clear hp0
        go_wp2_with fail
        (with_reducible refine (HD.out _).mono ?_); rintro e w2 ⟨rfl, hb2⟩
        have HT2 := Lib.hid (HH.out.1.below hb2)
        have HB2 : Hid (Below w.heap.size w w2) := HH.out.2.trans (hb2.mono HH.out.2.size)
        clear hb2
        go_wp2_with fail
        (with_reducible refine (HAD.out _ HT2.out).mono ?_); rintro e w3 ⟨rfl, ht3, hb3⟩
        have HF : Hid (MTab w3 p (p + 1) (tabI 3) ∧ Below w.heap.size w w3) := ⟨ht3, HB2.out.trans (hb3.mono hpw)⟩
        clear ht3 hb3
        go_wp2_with (go_at_call 8; refine (HN.out _ _).mono ?_; rintro e w' ⟨rfl, rfl⟩)
        go_roundw
        case rel => exact ⟨3, by omega, by first | rfl | go_num, rfl, HF⟩
        case measure => first | (simp [intOf]; done) | (simp [intOf]; omega)
      · have hjk : (3 : Int) < 1 + kk := by omega
        have HD : Hid (∀ W : World, Calls Try.prog 7 #[.int .i64 3] W fun e w' => e = .returned (sv [51]) ∧ Below W.heap.size W w') := fun W => Decimal_one 3 (by omega) W
        have HAD : Hid (∀ W : World, MTab W p (p + 1) (tabI 3) → Calls Try.prog 6 #[P p, .agg #[.string ⟨#[100, 47, 100, 47, 100, 47, 100]⟩, .string ⟨#[109, 51]⟩, .bool true]] W fun e w' => e = .returned (.int .i64 0) ∧ MTab w' p (p + 1) (tabI 4) ∧ Below p W w') := fun W h => Add_ok p (p + 1) (tabI 3) (mI 3) W h (may 3 (by omega))
        have c1 : (⟨#[109]⟩ : ByteArray) ++ ⟨#[51]⟩ = ⟨#[109, 51]⟩ := join_s [109] [51]
        have c2 : (⟨#[100, 47, 100, 47, 100]⟩ : ByteArray) ++ ⟨#[47]⟩ = ⟨#[100, 47, 100, 47, 100, 47]⟩ := join_s [100, 47, 100, 47, 100] [47]
        have c3 : (⟨#[100, 47, 100, 47, 100, 47]⟩ : ByteArray) ++ ⟨#[100]⟩ = ⟨#[100, 47, 100, 47, 100, 47, 100]⟩ := join_s [100, 47, 100, 47, 100, 47] [100]
        have hp0 : sv (dP 3) = .string ⟨#[100, 47, 100, 47, 100]⟩ := rfl
        rw [hp0]
        clear hp0
        go_wp2_with fail
        (with_reducible refine (HD.out _).mono ?_); rintro e w2 ⟨rfl, hb2⟩
        have HT2 := Lib.hid (HH.out.1.below hb2)
        have HB2 : Hid (Below w.heap.size w w2) := HH.out.2.trans (hb2.mono HH.out.2.size)
        clear hb2
        go_wp2_with fail
        (with_reducible refine (HAD.out _ HT2.out).mono ?_); rintro e w3 ⟨rfl, ht3, hb3⟩
        have HF : Hid (MTab w3 p (p + 1) (tabI 4) ∧ Below w.heap.size w w3) := ⟨ht3, HB2.out.trans (hb3.mono hpw)⟩
        clear ht3 hb3
        go_wp2_with (go_at_call 8; refine (HN.out _ _).mono ?_; rintro e w' ⟨rfl, rfl⟩)
        go_roundw
        case rel => exact ⟨4, by omega, by first | rfl | go_num, rfl, HF⟩
        case measure => first | (simp [intOf]; done) | (simp [intOf]; omega)
    · obtain rfl : j = 1 + kk := by omega
      have HT : Hid (MTab wr p (p + 1) (tabI (1 + kk))) := HH.out.1
      have HB : Hid (Below w.heap.size w wr) := HH.out.2
      clear HH hlt hj
      obtain ⟨i0, hi0⟩ : ∃ i0 : Nat, i0 = ii % (1 + kk) := ⟨_, rfl⟩
      have hik : i0 < 1 + kk := by rw [hi0]; exact Nat.mod_lt _ (by omega)
      have hrem : Int.tmod (ii : Int) (1 + kk) = i0 := by rw [hi0, Int.tmod_eq_emod_of_nonneg (by omega)]; simp
      have hk0 : ¬ ((1 : Int) + kk = 0) := by omega
      clear hi0
      go_wp2_with fail
      go_loopw [11, 12] (fun vq vj wx => ∃ j : Nat, j ≤ i0 ∧ vj = .int .i64 j ∧ vq = sv (dP (j + 1)) ∧ Hid (wr = wx)) (fun _ vj _ => i0 - (intOf vj).toNat)
      case atStart => exact ⟨0, by omega, rfl, rfl, rfl⟩
      case round =>
        obtain ⟨j, hj, rfl, rfl, HW⟩ := hrel
        obtain rfl := HW.out
        have hdl : ∀ j : Fin 5, (dP j.val).length ≤ 100 := by decide +kernel
        by_cases hlt : j < i0
        · have hji : (j : Int) < i0 := by omega
          have c1 : (⟨(dP (j + 1)).toArray⟩ : ByteArray) ++ ⟨#[47, 100]⟩ = ⟨(dP (j + 2)).toArray⟩ := join_s (dP (j + 1)) [47, 100]
          have z1 : (⟨(dP (j + 1)).toArray⟩ : ByteArray).size ≤ 100 := by rw [str_size]; exact hdl ⟨j + 1, by omega⟩
          have zl : (dP (j + 1)).length ≤ 100 := hdl ⟨j + 1, by omega⟩
          generalize hd1 : dP (j + 1) = d1 at *
          generalize hd2 : dP (j + 2) = d2 at *
          have HD2 := Lib.hid hd2
          clear hd1 hd2 hdl
          go_wp2_with fail
          go_roundw
          case rel => first | exact ⟨j + 1, by omega, by simp, HD2.out.symm⟩ | exact ⟨j + 1, by omega, by go_num, by rw [HD2.out], by first | exact rfl | trivial⟩
          case measure => simp [intOf]; omega
        · obtain rfl : j = i0 := by omega
          clear hlt hj hdl hrem
          rcases (show j = 0 ∨ j = 1 ∨ j = 2 ∨ j = 3 by omega) with rfl | rfl | rfl | rfl
          · have hdp : sv (dP (0 + 1)) = .string ⟨#[100]⟩ := rfl
            rw [hdp]
            have hji : ¬ ((0 : Int) < 0) := by omega
            have hwk := deep_all ⟨1 + kk, by omega⟩ ⟨0, by omega⟩ (by show 0 < 1 + kk; omega)
            have HW1 : Hid (∀ W : World, MTab W p (p + 1) (tabI (1 + kk)) → Calls Try.prog 9 #[P p, .string ⟨#[100, 47, 120]⟩] W fun e w' => e = .returned (.tuple #[.string ⟨#[109, 48, 47, 120]⟩, .bool false]) ∧ Below W.heap.size W w') := fun W h => by
              have := Walk_any p (p + 1) (tabI (1 + kk)) (dP (0 + 1) ++ [47, 120]) W h (by simp [tabI]; omega) (by decide +kernel) (tab_bd (1 + kk) (by omega))
              rw [hwk.1] at this
              exact this
            have HW2 : Hid (∀ W : World, MTab W p (p + 1) (tabI (1 + kk)) → Calls Try.prog 9 #[P p, .string ⟨#[100, 100]⟩] W fun e w' => e = .returned (.tuple #[.string ⟨#[100, 100]⟩, .bool false]) ∧ Below W.heap.size W w') := fun W h => by
              have := Walk_any p (p + 1) (tabI (1 + kk)) [100, 100] W h (by simp [tabI]; omega) (by decide) (tab_bd (1 + kk) (by omega))
              rw [hwk.2] at this
              exact this
            have HD : Hid (∀ W : World, Calls Try.prog 7 #[.int .i64 0] W fun e w' => e = .returned (.string ⟨#[48]⟩) ∧ Below W.heap.size W w') := fun W => Decimal_one 0 (by omega) W
            have c1 : (⟨#[100]⟩ : ByteArray) ++ ⟨#[47, 120]⟩ = ⟨#[100, 47, 120]⟩ := join_s [100] [47, 120]
            have c2 : (⟨#[109]⟩ : ByteArray) ++ ⟨#[48]⟩ = ⟨#[109, 48]⟩ := join_s [109] [48]
            have c3 : (⟨#[109, 48]⟩ : ByteArray) ++ ⟨#[47, 120]⟩ = ⟨#[109, 48, 47, 120]⟩ := join_s [109, 48] [47, 120]
            clear hdp hwk
            go_wp2_with fail
            (with_reducible refine (HW1.out _ HT.out).mono ?_); rintro e w2 ⟨rfl, hb2⟩
            have HT2 := Lib.hid (HT.out.below hb2)
            have HB2 : Hid (Below w.heap.size w w2) := HB.out.trans (hb2.mono HB.out.size)
            clear hb2
            go_wp2_with fail
            (with_reducible refine (HW2.out _ HT2.out).mono ?_); rintro e w3 ⟨rfl, hb3⟩
            have HB3 : Hid (Below w.heap.size w w3) := HB2.out.trans (hb3.mono HB2.out.size)
            clear hb3
            go_wp2_with fail
            (with_reducible refine (HD.out _).mono ?_); rintro e w4 ⟨rfl, hb4⟩
            have HB4 : Hid (Below w.heap.size w w4) := HB3.out.trans (hb4.mono HB3.out.size)
            clear hb4
            go_wp2_with fail
            go_ret
            exact ⟨rfl, HB4.out⟩
          · have hdp : sv (dP (1 + 1)) = .string ⟨#[100, 47, 100]⟩ := rfl
            rw [hdp]
            have hji : ¬ ((1 : Int) < 1) := by omega
            have hwk := deep_all ⟨1 + kk, by omega⟩ ⟨1, by omega⟩ (by show 1 < 1 + kk; omega)
            have HW1 : Hid (∀ W : World, MTab W p (p + 1) (tabI (1 + kk)) → Calls Try.prog 9 #[P p, .string ⟨#[100, 47, 100, 47, 120]⟩] W fun e w' => e = .returned (.tuple #[.string ⟨#[109, 49, 47, 120]⟩, .bool true]) ∧ Below W.heap.size W w') := fun W h => by
              have := Walk_any p (p + 1) (tabI (1 + kk)) (dP (1 + 1) ++ [47, 120]) W h (by simp [tabI]; omega) (by decide +kernel) (tab_bd (1 + kk) (by omega))
              rw [hwk.1] at this
              exact this
            have HW2 : Hid (∀ W : World, MTab W p (p + 1) (tabI (1 + kk)) → Calls Try.prog 9 #[P p, .string ⟨#[100, 100]⟩] W fun e w' => e = .returned (.tuple #[.string ⟨#[100, 100]⟩, .bool false]) ∧ Below W.heap.size W w') := fun W h => by
              have := Walk_any p (p + 1) (tabI (1 + kk)) [100, 100] W h (by simp [tabI]; omega) (by decide) (tab_bd (1 + kk) (by omega))
              rw [hwk.2] at this
              exact this
            have HD : Hid (∀ W : World, Calls Try.prog 7 #[.int .i64 1] W fun e w' => e = .returned (.string ⟨#[49]⟩) ∧ Below W.heap.size W w') := fun W => Decimal_one 1 (by omega) W
            have c1 : (⟨#[100, 47, 100]⟩ : ByteArray) ++ ⟨#[47, 120]⟩ = ⟨#[100, 47, 100, 47, 120]⟩ := join_s [100, 47, 100] [47, 120]
            have c2 : (⟨#[109]⟩ : ByteArray) ++ ⟨#[49]⟩ = ⟨#[109, 49]⟩ := join_s [109] [49]
            have c3 : (⟨#[109, 49]⟩ : ByteArray) ++ ⟨#[47, 120]⟩ = ⟨#[109, 49, 47, 120]⟩ := join_s [109, 49] [47, 120]
            clear hdp hwk
            go_wp2_with fail
            (with_reducible refine (HW1.out _ HT.out).mono ?_); rintro e w2 ⟨rfl, hb2⟩
            have HT2 := Lib.hid (HT.out.below hb2)
            have HB2 : Hid (Below w.heap.size w w2) := HB.out.trans (hb2.mono HB.out.size)
            clear hb2
            go_wp2_with fail
            (with_reducible refine (HW2.out _ HT2.out).mono ?_); rintro e w3 ⟨rfl, hb3⟩
            have HB3 : Hid (Below w.heap.size w w3) := HB2.out.trans (hb3.mono HB2.out.size)
            clear hb3
            go_wp2_with fail
            (with_reducible refine (HD.out _).mono ?_); rintro e w4 ⟨rfl, hb4⟩
            have HB4 : Hid (Below w.heap.size w w4) := HB3.out.trans (hb4.mono HB3.out.size)
            clear hb4
            go_wp2_with fail
            go_ret
            exact ⟨rfl, HB4.out⟩
          · have hdp : sv (dP (2 + 1)) = .string ⟨#[100, 47, 100, 47, 100]⟩ := rfl
            rw [hdp]
            have hji : ¬ ((2 : Int) < 2) := by omega
            have hwk := deep_all ⟨1 + kk, by omega⟩ ⟨2, by omega⟩ (by show 2 < 1 + kk; omega)
            have HW1 : Hid (∀ W : World, MTab W p (p + 1) (tabI (1 + kk)) → Calls Try.prog 9 #[P p, .string ⟨#[100, 47, 100, 47, 100, 47, 120]⟩] W fun e w' => e = .returned (.tuple #[.string ⟨#[109, 50, 47, 120]⟩, .bool false]) ∧ Below W.heap.size W w') := fun W h => by
              have e0 : dP (2 + 1) ++ [47, 120] = [100, 47, 100, 47, 100, 47, 120] := by decide +kernel
              have h1 : walkR (tabI (1 + kk)) (dP (2 + 1) ++ [47, 120]) = ([109, 50, 47, 120], false) := deep2 kk (by omega) (by omega)
              have := Walk_any p (p + 1) (tabI (1 + kk)) (dP (2 + 1) ++ [47, 120]) W h (by simp [tabI]; omega) (by decide +kernel) (tab_bd (1 + kk) (by omega))
              rw [h1, e0] at this
              exact this
            have HW2 : Hid (∀ W : World, MTab W p (p + 1) (tabI (1 + kk)) → Calls Try.prog 9 #[P p, .string ⟨#[100, 100]⟩] W fun e w' => e = .returned (.tuple #[.string ⟨#[100, 100]⟩, .bool false]) ∧ Below W.heap.size W w') := fun W h => by
              have := Walk_any p (p + 1) (tabI (1 + kk)) [100, 100] W h (by simp [tabI]; omega) (by decide) (tab_bd (1 + kk) (by omega))
              rw [hwk.2] at this
              exact this
            have HD : Hid (∀ W : World, Calls Try.prog 7 #[.int .i64 2] W fun e w' => e = .returned (.string ⟨#[50]⟩) ∧ Below W.heap.size W w') := fun W => Decimal_one 2 (by omega) W
            have c1 : (⟨#[100, 47, 100, 47, 100]⟩ : ByteArray) ++ ⟨#[47, 120]⟩ = ⟨#[100, 47, 100, 47, 100, 47, 120]⟩ := join_s [100, 47, 100, 47, 100] [47, 120]
            have c2 : (⟨#[109]⟩ : ByteArray) ++ ⟨#[50]⟩ = ⟨#[109, 50]⟩ := join_s [109] [50]
            have c3 : (⟨#[109, 50]⟩ : ByteArray) ++ ⟨#[47, 120]⟩ = ⟨#[109, 50, 47, 120]⟩ := join_s [109, 50] [47, 120]
            clear hdp hwk
            go_wp2_with fail
            (with_reducible refine (HW1.out _ HT.out).mono ?_); rintro e w2 ⟨rfl, hb2⟩
            have HT2 := Lib.hid (HT.out.below hb2)
            have HB2 : Hid (Below w.heap.size w w2) := HB.out.trans (hb2.mono HB.out.size)
            clear hb2
            go_wp2_with fail
            (with_reducible refine (HW2.out _ HT2.out).mono ?_); rintro e w3 ⟨rfl, hb3⟩
            have HB3 : Hid (Below w.heap.size w w3) := HB2.out.trans (hb3.mono HB2.out.size)
            clear hb3
            go_wp2_with fail
            (with_reducible refine (HD.out _).mono ?_); rintro e w4 ⟨rfl, hb4⟩
            have HB4 : Hid (Below w.heap.size w w4) := HB3.out.trans (hb4.mono HB3.out.size)
            clear hb4
            go_wp2_with fail
            go_ret
            exact ⟨rfl, HB4.out⟩
          · have hdp : sv (dP (3 + 1)) = .string ⟨#[100, 47, 100, 47, 100, 47, 100]⟩ := rfl
            rw [hdp]
            have hji : ¬ ((3 : Int) < 3) := by omega
            have hwk := deep_all ⟨1 + kk, by omega⟩ ⟨3, by omega⟩ (by show 3 < 1 + kk; omega)
            have HW1 : Hid (∀ W : World, MTab W p (p + 1) (tabI (1 + kk)) → Calls Try.prog 9 #[P p, .string ⟨#[100, 47, 100, 47, 100, 47, 100, 47, 120]⟩] W fun e w' => e = .returned (.tuple #[.string ⟨#[109, 51, 47, 120]⟩, .bool true]) ∧ Below W.heap.size W w') := fun W h => by
              have e0 : dP (3 + 1) ++ [47, 120] = [100, 47, 100, 47, 100, 47, 100, 47, 120] := by decide +kernel
              have h1 : walkR (tabI (1 + kk)) (dP (3 + 1) ++ [47, 120]) = ([109, 51, 47, 120], true) := deep3 kk (by omega) (by omega)
              have := Walk_any p (p + 1) (tabI (1 + kk)) (dP (3 + 1) ++ [47, 120]) W h (by simp [tabI]; omega) (by decide +kernel) (tab_bd (1 + kk) (by omega))
              rw [h1, e0] at this
              exact this
            have HW2 : Hid (∀ W : World, MTab W p (p + 1) (tabI (1 + kk)) → Calls Try.prog 9 #[P p, .string ⟨#[100, 100]⟩] W fun e w' => e = .returned (.tuple #[.string ⟨#[100, 100]⟩, .bool false]) ∧ Below W.heap.size W w') := fun W h => by
              have := Walk_any p (p + 1) (tabI (1 + kk)) [100, 100] W h (by simp [tabI]; omega) (by decide) (tab_bd (1 + kk) (by omega))
              rw [hwk.2] at this
              exact this
            have HD : Hid (∀ W : World, Calls Try.prog 7 #[.int .i64 3] W fun e w' => e = .returned (.string ⟨#[51]⟩) ∧ Below W.heap.size W w') := fun W => Decimal_one 3 (by omega) W
            have c1 : (⟨#[100, 47, 100, 47, 100, 47, 100]⟩ : ByteArray) ++ ⟨#[47, 120]⟩ = ⟨#[100, 47, 100, 47, 100, 47, 100, 47, 120]⟩ := join_s [100, 47, 100, 47, 100, 47, 100] [47, 120]
            have c2 : (⟨#[109]⟩ : ByteArray) ++ ⟨#[51]⟩ = ⟨#[109, 51]⟩ := join_s [109] [51]
            have c3 : (⟨#[109, 51]⟩ : ByteArray) ++ ⟨#[47, 120]⟩ = ⟨#[109, 51, 47, 120]⟩ := join_s [109, 51] [47, 120]
            clear hdp hwk
            go_wp2_with fail
            (with_reducible refine (HW1.out _ HT.out).mono ?_); rintro e w2 ⟨rfl, hb2⟩
            have HT2 := Lib.hid (HT.out.below hb2)
            have HB2 : Hid (Below w.heap.size w w2) := HB.out.trans (hb2.mono HB.out.size)
            clear hb2
            go_wp2_with fail
            (with_reducible refine (HW2.out _ HT2.out).mono ?_); rintro e w3 ⟨rfl, hb3⟩
            have HB3 : Hid (Below w.heap.size w w3) := HB2.out.trans (hb3.mono HB2.out.size)
            clear hb3
            go_wp2_with fail
            (with_reducible refine (HD.out _).mono ?_); rintro e w4 ⟨rfl, hb4⟩
            have HB4 : Hid (Below w.heap.size w w4) := HB3.out.trans (hb4.mono HB3.out.size)
            clear hb4
            go_wp2_with fail
            go_ret
            exact ⟨rfl, HB4.out⟩
end Go.Proofs.Ytdbonbdgoekkcaa.mounts
