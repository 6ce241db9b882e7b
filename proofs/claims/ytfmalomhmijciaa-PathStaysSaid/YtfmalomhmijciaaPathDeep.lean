/-
  Proved: the statement PathDeep, as a contract. Conditions: as each theorem says.
-/
import Derived.Test.YtfmalomhmijciaaPath4
namespace Go.Proofs.Ytfmalomhmijciaa.path
open Go.RowKit Go.Shelf
open heap
set_option linter.unusedVariables false

theorem and_lt (a : Int) (m : Nat) (hm : m < 9223372036854775808) : ∃ k : Nat, k ≤ m ∧ bits .and .i64 a (m : Int) = k := by
  refine ⟨(BitVec.ofInt 64 a &&& BitVec.ofInt 64 (m : Int)).toNat, ?_, ?_⟩
  · rw [BitVec.toNat_and, BitVec.ofInt_natCast, BitVec.toNat_ofNat]
    exact Nat.le_trans Nat.and_le_right (Nat.mod_le _ _)
  · have h : (BitVec.ofInt 64 a &&& BitVec.ofInt 64 (m : Int)).toNat ≤ m := by
      rw [BitVec.toNat_and, BitVec.ofInt_natCast, BitVec.toNat_ofNat]
      exact Nat.le_trans Nat.and_le_right (Nat.mod_le _ _)
    show IntKind.i64.wrap (((BitVec.ofInt 64 a &&& BitVec.ofInt 64 (m : Int)).toNat : Nat) : Int) = _
    rw [IntKind.wrap_i64]
    omega
def letters : List UInt8 := [97, 98, 99, 100, 101, 102, 103, 104, 105, 106, 107, 108, 109, 110, 111, 112]
def deepS (nm : List UInt8) : Nat → List UInt8
  | 0 => []
  | k + 1 => deepS nm k ++ 47 :: nm
def deepOk (K W : Nat) : Bool :=
  let nm := letters.take W
  let S := deepS nm K
  let a := cleanR [] S
  let b := cleanR [] (S ++ [47, 46, 46])
  if 8 < K then decide (a = ([], 402)) && (decide (b.2 = 0) == decide (K - 1 ≤ 8))
  else decide (K * (W + 1) - 1 ≤ 140) && decide (a = (S.drop 1, 0)) && decide (b.2 = 0) && decide ((partsL a.1).length = K) && decide ((partsL b.1).length = K - 1) && decide (b.1.length ≤ 1000)
theorem deep_all : ∀ K, K < 16 → ∀ W, W < 16 → deepOk (K + 1) (W + 1) = true := by decide +kernel
theorem deepS_len (nm : List UInt8) (k : Nat) : (deepS nm k).length = k * (nm.length + 1) := by
  induction k with
  | zero => simp [deepS]
  | succ k ih => simp [deepS, ih, Nat.add_mul]
theorem letters_ext : ∀ W, W < 16 → (⟨#[97, 98, 99, 100, 101, 102, 103, 104, 105, 106, 107, 108, 109, 110, 111, 112]⟩ : ByteArray).extract 0 (W + 1) = ⟨(letters.take (W + 1)).toArray⟩ := by decide +kernel
set_option maxRecDepth 100000 in
set_option maxHeartbeats 4000000 in
theorem deep (many long : Int) (w : World) : Calls Try.prog 3 #[.int .i64 many, .int .i64 long] w fun e w' => e = .returned (.bool true) ∧ Below w.heap.size w w' := by
  obtain ⟨k, hk, ek⟩ := and_lt many 15 (by omega)
  obtain ⟨d, hd, ed⟩ := and_lt long 15 (by omega)
  have ek' : bits .and .i64 many 15 = (k : Int) := ek
  have ed' : bits .and .i64 long 15 = (d : Int) := ed
  have HL := Lib.hid (letters_ext d (by omega))
  have HOK := Lib.hid (deep_all k (by omega) d (by omega))
  have HN := Lib.hid Num_any
  have hnl : (letters.take (d + 1)).length = d + 1 := by rw [List.length_take]; show min (d + 1) 16 = _; omega
  have hL1 := HL.out
  have hL2 : (⟨#[97, 98, 99, 100, 101, 102, 103, 104, 105, 106, 107, 108, 109, 110, 111, 112]⟩ : ByteArray).extract 0 (1 + d) = ⟨(letters.take (d + 1)).toArray⟩ := by rw [Nat.add_comm 1 d]; exact HL.out
  generalize hnm : letters.take (d + 1) = nm at *
  have HNM := Lib.hid hnm
  clear hnm
  clear ek ed
  go_enter Try.func3, Try.ntmps3
  go_wp2_with fail
  (with_reducible refine (awake_any _).mono ?_); rintro e w1 ⟨rfl, hb1⟩
  have HB1 := Lib.hid hb1
  clear hb1
  go_wp2_with fail
  rw [hL2]
  clear hL1 hL2
  go_loopw [8, 9] (fun s i wr => ∃ j : Nat, j ≤ k + 1 ∧ i = .int .i64 j ∧ s = sv (deepS nm j) ∧ Hid (w1 = wr)) (fun _ i _ => k + 1 - (intOf i).toNat)
  case atStart => exact ⟨0, by omega, rfl, rfl, rfl⟩
  case round =>
    obtain ⟨j, hj, rfl, rfl, HW⟩ := hrel
    have zs := str_size (deepS nm j)
    have zl := deepS_len nm j
    rw [hnl] at zl
    have hmul : j * (d + 1 + 1) ≤ 16 * 17 := Nat.mul_le_mul (by omega) (by omega)
    have zl2 : (deepS nm j).length ≤ 272 := by omega
    have zn2 : nm.length ≤ 16 := by omega
    have zs2 : (⟨(deepS nm j).toArray⟩ : ByteArray).size ≤ 272 := by omega
    have zn : (⟨nm.toArray⟩ : ByteArray).size ≤ 16 := by rw [str_size]; omega
    by_cases hlt : j < k + 1
    · have hj1 : (⟨(deepS nm j).toArray⟩ : ByteArray) ++ ⟨#[47]⟩ = ⟨(deepS nm j ++ [47]).toArray⟩ := join_s _ [47]
      have hj2 : (⟨(deepS nm j ++ [47]).toArray⟩ : ByteArray) ++ ⟨nm.toArray⟩ = ⟨(deepS nm (j + 1)).toArray⟩ := by have := join_s (deepS nm j ++ [47]) nm; rwa [List.append_assoc] at this
      have zs3 : (⟨(deepS nm j ++ [47]).toArray⟩ : ByteArray).size ≤ 273 := by rw [str_size]; simp; omega
      generalize (⟨(deepS nm j ++ [47]).toArray⟩ : ByteArray) = T1 at *
      clear zs zl hmul
      go_wp2_with fail
      go_roundw
      case rel => exact ⟨j + 1, by omega, by go_num, rfl, HW⟩
      case measure => simp [intOf]; omega
    · obtain rfl : j = k + 1 := by omega
      obtain rfl := HW.out
      clear HW
      have HC1 : Hid (∀ W : World, Calls Try.prog 8 #[.string ⟨#[]⟩, sv (deepS nm (k + 1))] W fun e w' => e = .returned (.tuple #[sv (cleanR [] (deepS nm (k + 1))).1, .int .i64 (cleanR [] (deepS nm (k + 1))).2]) ∧ Below W.heap.size W w') := fun W => Clean_any [] _ W (by decide) (by omega)
      have hj1 : (⟨(deepS nm (k + 1)).toArray⟩ : ByteArray) ++ ⟨#[47, 46, 46]⟩ = ⟨(deepS nm (k + 1) ++ [47, 46, 46]).toArray⟩ := join_s _ [47, 46, 46]
      have HC2 : Hid (∀ W : World, Calls Try.prog 8 #[.string ⟨#[]⟩, sv (deepS nm (k + 1) ++ [47, 46, 46])] W fun e w' => e = .returned (.tuple #[sv (cleanR [] (deepS nm (k + 1) ++ [47, 46, 46])).1, .int .i64 (cleanR [] (deepS nm (k + 1) ++ [47, 46, 46])).2]) ∧ Below W.heap.size W w') := fun W => Clean_any [] _ W (by decide) (by simp; omega)
      have hO := HOK.out
      unfold deepOk at hO
      rw [HNM.out] at hO
      simp only at hO
      generalize hS : deepS nm (k + 1) = S at *
      generalize cleanR [] S = ra at *
      generalize hS2 : S ++ [47, 46, 46] = S2 at *
      generalize cleanR [] S2 = rb at *
      obtain ⟨a, ea⟩ := ra
      obtain ⟨b, eb⟩ := rb
      simp only at hO HC1 HC2
      by_cases h8 : 8 < k + 1
      · rw [if_pos h8] at hO
        simp only [Bool.and_eq_true, decide_eq_true_eq, Prod.mk.injEq] at hO
        obtain ⟨⟨rfl, rfl⟩, hO2⟩ := hO
        go_wp2_with fail
        (with_reducible refine (HC1.out _).mono ?_); rintro e w2 ⟨rfl, hb2⟩
        have HB2 : Hid (Below w.heap.size w w2) := HB1.out.trans (hb2.mono HB1.out.size)
        clear hb2
        go_wp2_with fail
        (with_reducible refine (HC2.out _).mono ?_); rintro e w3 ⟨rfl, hb3⟩
        have HB3 : Hid (Below w.heap.size w w3) := HB2.out.trans (hb3.mono HB2.out.size)
        clear hb3
        have h8i : (8 : Int) < 1 + k := by omega
        by_cases h9 : k ≤ 8
        · have hO3 : eb = 0 := by
            have : decide (k + 1 - 1 ≤ 8) = true := by simp; omega
            rw [this] at hO2
            simpa using hO2
          subst hO3
          have d9 : decide (1 + (k : Int) - 1 ≤ 8) = true := by simp; omega
          have d9' : decide ((k : Int) ≤ 8) = true := by simp; omega
          clear hO2
          go_wp2_with (go_at_call 9; refine (HN.out _ _).mono ?_; rintro e w' ⟨rfl, rfl⟩)
          go_ret
          exact ⟨rfl, HB3.out⟩
        · have hO3 : (eb == 0) = false := by
            have : decide (k + 1 - 1 ≤ 8) = false := by simp; omega
            rw [this] at hO2
            simpa using hO2
          have d9 : decide (1 + (k : Int) - 1 ≤ 8) = false := by simp; omega
          have d9' : decide ((k : Int) ≤ 8) = false := by simp; omega
          clear hO2
          go_wp2_with (go_at_call 9; refine (HN.out _ _).mono ?_; rintro e w' ⟨rfl, rfl⟩)
          go_ret
          exact ⟨rfl, HB3.out⟩
      · rw [if_neg h8] at hO
        simp only [Bool.and_eq_true, decide_eq_true_eq, Prod.mk.injEq] at hO
        obtain ⟨⟨⟨⟨⟨hO1, rfl, rfl⟩, rfl⟩, hO4⟩, hO5⟩, hO6⟩ := hO
        rw [List.drop_one] at hO4 HC1
        have HP1 := Lib.hid (fun W : World => Parts_any S.tail W (by rw [List.length_tail]; omega))
        have HP2 := Lib.hid (fun W : World => Parts_any b W (by omega))
        have hex : (⟨S.toArray⟩ : ByteArray).extract 1 S.length = ⟨S.tail.toArray⟩ := by
          apply ByteArray.ext
          rw [ByteArray.data_extract]
          apply Array.toList_inj.1
          simp [List.extract_eq_take_drop]
          exact List.take_of_length_le (by simp)
        have hSl : 1 ≤ S.length := by rw [zl]; have : 0 < (k + 1) * (d + 1 + 1) := Nat.mul_pos (by omega) (by omega); omega
        have hmi : (1 + (k : Int)) * (1 + d + 1) ≤ 141 := by
          have h1 : (k + 1) * (d + 1 + 1) ≤ 141 := by omega
          have h2 : (((k + 1) * (d + 1 + 1) : Nat) : Int) ≤ 141 := by omega
          rw [Int.natCast_mul] at h2
          have e1 : ((k + 1 : Nat) : Int) = 1 + k := by omega
          have e2 : ((d + 1 + 1 : Nat) : Int) = 1 + d + 1 := by omega
          rw [e1, e2] at h2
          exact h2
        have hmp : 0 ≤ (1 + (k : Int)) * (1 + d + 1) := Int.mul_nonneg (by omega) (by omega)
        have h8i : (1 + (k : Int)) ≤ 8 := by omega
        clear hO1 zl zs hmul
        go_wp2_with fail
        (with_reducible refine (HC1.out _).mono ?_); rintro e w2 ⟨rfl, hb2⟩
        have HB2 : Hid (Below w.heap.size w w2) := HB1.out.trans (hb2.mono HB1.out.size)
        clear hb2
        go_wp2_with fail
        (with_reducible refine (HC2.out _).mono ?_); rintro e w3 ⟨rfl, hb3⟩
        have HB3 : Hid (Below w.heap.size w w3) := HB2.out.trans (hb3.mono HB2.out.size)
        clear hb3
        go_wp2_with (go_at_call 9; refine (HN.out _ _).mono ?_; rintro e w' ⟨rfl, rfl⟩)
        (with_reducible refine (HP1.out _).mono ?_); rintro e w4 ⟨v4, rfl, hr4, hb4⟩
        obtain ⟨a4, c4, rfl⟩ := own_slice hr4
        rw [hO4]
        have HB4 : Hid (Below w.heap.size w w4) := HB3.out.trans (hb4.mono HB3.out.size)
        clear hr4 hb4
        have hq1 : (((k + 1 : Nat) : Int) == 1 + k) = true := by rw [beq_iff_eq]; omega
        have hq2 : (((k : Int) + 1) == 1 + k) = true := by rw [beq_iff_eq]; omega
        go_wp2_with fail
        (with_reducible refine (HP2.out _).mono ?_); rintro e w5 ⟨v5, rfl, hr5, hb5⟩
        obtain ⟨a5, c5, rfl⟩ := own_slice hr5
        rw [hO5]
        have HB5 : Hid (Below w.heap.size w w5) := HB4.out.trans (hb5.mono HB4.out.size)
        clear hr5 hb5
        have hq3 : (((k + 1 - 1 : Nat) : Int) == 1 + k - 1) = true := by rw [beq_iff_eq]; omega
        have hq4 : ((k : Int) == 1 + k - 1) = true := by rw [beq_iff_eq]; omega
        go_wp2_with fail
        go_ret
        exact ⟨rfl, HB5.out⟩
end Go.Proofs.Ytfmalomhmijciaa.path
