/-
  Proved: what the document's own decimal returns at its ends (written by wip/bin/rdec.py). Conditions: as each theorem says.
-/
import Derived.Test.YtjanpaallealgaaGreatDoorFlt17
namespace Go.Proofs.YtjanpaallealgaaGreatDoor.flt
open Go.RowKit Ieee
set_option linter.unusedVariables false
set_option maxRecDepth 100000

theorem get_list {SS : ByteArray} {L : List UInt8} (h : SS.data.toList = L) (j : Nat) (hj : j < SS.size) : L.getD j 0 = SS[j] := by
  subst h
  rw [List.getD_eq_getElem?_getD, List.getElem?_eq_getElem (by simpa using hj)]
  rfl
set_option maxHeartbeats 1000000 in
theorem rdec_no0_pt (S SS : ByteArray) (k m : Nat) (w : World) (hz : S.size ≤ 1000000000000000001) (hk : k < S.size) (hne : ((S[k].toNat : Int) == 46) = true) (hm0 : 0 < m) (hsz : k + 1 + m = S.size) (hext : S.extract 0 k ++ S.extract (k + 1) S.size = SS)
    (HD : Hid (∀ W, Calls Tryz.prog 76 #[.string S, .int .i64 0] W fun e w' => e = .returned (.int .i64 (k : Nat)) ∧ W = w'))
    (HE : Hid (∀ W, Calls Tryz.prog 76 #[.string S, .int .i64 ((k : Int) + 1)] W fun e w' => e = .returned (.int .i64 (m : Nat)) ∧ W = w'))
    (h0 : k = 0) :
    Calls Tryz.prog 62 #[.string S] w fun e w' => e = .returned (.tuple #[fv 0, .bool false]) ∧ w = w' := by
  have e1 : (k : Int) + 1 + m = S.size := by omega
  have h2 : ((m : Int) == 0) = false := beq_eq_false_iff_ne.2 (by omega)
  have hx1 : (S.extract 0 k).size ≤ S.size := by rw [ByteArray.size_extract]; omega
  have hx2 : (S.extract (k + 1) S.size).size ≤ S.size := by rw [ByteArray.size_extract]; omega
  have hx3 : (S.extract 0 k).size + (S.extract (k + 1) S.size).size ≤ 2000000000000000002 := by omega
  have h00 : ((k : Int) == 0) = true := beq_iff_eq.2 (by omega)
  clear h0
  go_enter Tryz.func62, Tryz.ntmps62
  go_wp2_with (go_at_call 76; first | ((with_reducible refine (HD.out _).mono ?_); rintro e w1 ⟨rfl, rfl⟩) | ((with_reducible refine (HE.out _).mono ?_); rintro e w1 ⟨rfl, rfl⟩))
  go_ret2
  exact ⟨rfl, rfl⟩
set_option maxHeartbeats 1000000 in
theorem rdec_no1_pt (S SS : ByteArray) (k m : Nat) (w : World) (hz : S.size ≤ 1000000000000000001) (hk : k < S.size) (hne : ((S[k].toNat : Int) == 46) = true) (hm0 : 0 < m) (hsz : k + 1 + m = S.size) (hext : S.extract 0 k ++ S.extract (k + 1) S.size = SS)
    (HD : Hid (∀ W, Calls Tryz.prog 76 #[.string S, .int .i64 0] W fun e w' => e = .returned (.int .i64 (k : Nat)) ∧ W = w'))
    (HE : Hid (∀ W, Calls Tryz.prog 76 #[.string S, .int .i64 ((k : Int) + 1)] W fun e w' => e = .returned (.int .i64 (m : Nat)) ∧ W = w'))
    (h0 : 0 < k) (h15 : 15 < SS.size) :
    Calls Tryz.prog 62 #[.string S] w fun e w' => e = .returned (.tuple #[fv 0, .bool false]) ∧ w = w' := by
  have e1 : (k : Int) + 1 + m = S.size := by omega
  have h2 : ((m : Int) == 0) = false := beq_eq_false_iff_ne.2 (by omega)
  have hx1 : (S.extract 0 k).size ≤ S.size := by rw [ByteArray.size_extract]; omega
  have hx2 : (S.extract (k + 1) S.size).size ≤ S.size := by rw [ByteArray.size_extract]; omega
  have hx3 : (S.extract 0 k).size + (S.extract (k + 1) S.size).size ≤ 2000000000000000002 := by omega
  have h00 : ((k : Int) == 0) = false := beq_eq_false_iff_ne.2 (by omega)
  go_enter Tryz.func62, Tryz.ntmps62
  go_wp2_with (go_at_call 76; first | ((with_reducible refine (HD.out _).mono ?_); rintro e w1 ⟨rfl, rfl⟩) | ((with_reducible refine (HE.out _).mono ?_); rintro e w1 ⟨rfl, rfl⟩))
  go_ret2
  exact ⟨rfl, rfl⟩
set_option maxHeartbeats 1000000 in
theorem rdec_yes_pt (S SS : ByteArray) (k m : Nat) (w : World) (hz : S.size ≤ 1000000000000000001) (hk : k < S.size) (hne : ((S[k].toNat : Int) == 46) = true) (hm0 : 0 < m) (hsz : k + 1 + m = S.size) (hext : S.extract 0 k ++ S.extract (k + 1) S.size = SS)
    (HD : Hid (∀ W, Calls Tryz.prog 76 #[.string S, .int .i64 0] W fun e w' => e = .returned (.int .i64 (k : Nat)) ∧ W = w'))
    (HE : Hid (∀ W, Calls Tryz.prog 76 #[.string S, .int .i64 ((k : Int) + 1)] W fun e w' => e = .returned (.int .i64 (m : Nat)) ∧ W = w'))
    (q : Nat) (L : List UInt8) (h0 : 0 < k) (h15 : SS.size ≤ 15) (hL : SS.data.toList = L) (hall : L.all isD = true) (hm : m ≤ 15) (hq : fop .quo (fl (numL L)) (fl (10 ^ m)) = some q) :
    Calls Tryz.prog 62 #[.string S] w fun e w' => e = .returned (.tuple #[fv q, .bool true]) ∧ w = w' := by
  have e1 : (k : Int) + 1 + m = S.size := by omega
  have h2 : ((m : Int) == 0) = false := beq_eq_false_iff_ne.2 (by omega)
  have hx1 : (S.extract 0 k).size ≤ S.size := by rw [ByteArray.size_extract]; omega
  have hx2 : (S.extract (k + 1) S.size).size ≤ S.size := by rw [ByteArray.size_extract]; omega
  have hx3 : (S.extract 0 k).size + (S.extract (k + 1) S.size).size ≤ 2000000000000000002 := by omega
  have h00 : ((k : Int) == 0) = false := beq_eq_false_iff_ne.2 (by omega)
  have HL := Lib.hid hL
  have HA := Lib.hid hall
  have HQ := Lib.hid hq
  have HLL : Hid (L.length = SS.size) := by unfold Hid; rw [← hL]; simp
  clear hL hall hq
  go_enter Tryz.func62, Tryz.ntmps62
  go_wp2_with (go_at_call 76; first | ((with_reducible refine (HD.out _).mono ?_); rintro e w1 ⟨rfl, rfl⟩) | ((with_reducible refine (HE.out _).mono ?_); rintro e w1 ⟨rfl, rfl⟩))
  go_loop [7, 9] (fun x i => ∃ j : Nat, i = .int .i64 j ∧ j ≤ SS.size ∧ x = fv (fl (numL (L.take j)))) (fun _ i => SS.size - (intOf i).toNat)
  case atStart => exact ⟨0, rfl, Nat.zero_le _, congrArg fv zero_fl⟩
  case round =>
    obtain ⟨j, rfl, hj, rfl⟩ := hrel
    by_cases hlt : j < SS.size
    · have hX := numL_bd14 L HA.out (by rw [HLL.out]; exact h15) j (by rw [HLL.out]; exact hlt)
      have hcd := isD_at HA.out j (by rw [HLL.out]; exact hlt)
      have HT := Lib.hid (take_getD L j (by rw [HLL.out]; exact hlt))
      have HN := Lib.hid (numL_snoc (L.take j) (L.getD j 0))
      rw [get_list HL.out j hlt] at hcd HT HN
      generalize hX2 : numL (L.take j) = X at *
      have hc1 := hcd.1
      have hc2 := hcd.2
      clear hcd
      have e1 : (SS[j].toNat : Int) - 48 = ((SS[j].toNat - 48 : Nat) : Int) := by omega
      have hfi : floatOfInt .f64 ((SS[j].toNat : Int) - 48) = fl (SS[j].toNat - 48) := by rw [e1, floatOfInt_nat]
      have hmul := fun W => run_float_arith (P := Tryz.prog) W .mul 36 .f64 (fl X) 4621819117588971520 (fl (X * 10)) (by rw [ten_fl]; exact mul_int X 10 (by omega) (by omega))
      have hadd := fun W => run_float_arith (P := Tryz.prog) W .add 36 .f64 (fl (X * 10)) (fl (SS[j].toNat - 48)) (fl (X * 10 + (SS[j].toNat - 48))) (add_int (X * 10) (SS[j].toNat - 48) (by omega) (by omega))
      have HX : Hid (fl (X * 10 + (SS[j].toNat - 48)) = fl (numL (L.take (j + 1)))) := by rw [Hid, HT.out, HN.out]
      clear hX HN HT hX2 e1
      generalize fl (X * 10 + (SS[j].toNat - 48)) = x2 at *
      generalize fl (SS[j].toNat - 48) = d at *
      generalize fl (X * 10) = x1 at *
      generalize fl X = x at *
      go_wp2_with fail
      go_round
      case rel => exact ⟨j + 1, by go_num, by omega, by rw [HX.out]⟩
      case measure => simp [intOf]; omega
    · obtain rfl : j = SS.size := by omega
      have HTL : Hid (L.take SS.size = L) := by rw [Hid, ← HLL.out, List.take_length]
      rw [HTL.out]
      generalize fl (numL L) = x at *
      go_wp2_with fail
      go_loop [8, 10] (fun y i => ∃ j : Nat, i = .int .i64 j ∧ j ≤ m ∧ y = fv (fl (10 ^ j))) (fun _ i => m - (intOf i).toNat)
      case atStart => exact ⟨0, rfl, Nat.zero_le _, congrArg fv (by rw [Nat.pow_zero]; exact one_fl)⟩
      case round =>
        obtain ⟨j, rfl, hj2, rfl⟩ := hrel
        by_cases hlt2 : j < m
        · have hP := pow_le15 j (by omega)
          have hmul2 := fun W => run_float_arith (P := Tryz.prog) W .mul 36 .f64 (fl (10 ^ j)) 4621819117588971520 (fl (10 ^ j * 10)) (by rw [ten_fl]; exact mul_int _ 10 (by omega) (by omega))
          have HY : Hid (fl (10 ^ j * 10) = fl (10 ^ (j + 1))) := by rw [Hid, ← Nat.pow_succ]
          clear hP
          generalize fl (10 ^ j * 10) = y2 at *
          generalize fl (10 ^ j) = y at *
          go_wp2_with fail
          go_round
          case rel => exact ⟨j + 1, by go_num, by omega, by rw [HY.out]⟩
          case measure => simp [intOf]; omega
        · obtain rfl : m = j := by omega
          have hquo := fun W => run_float_arith (P := Tryz.prog) W .quo 36 .f64 x (fl (10 ^ m)) q HQ.out
          generalize fl (10 ^ m) = y at *
          go_wp2_with fail
          go_ret2
          exact ⟨rfl, rfl⟩
set_option maxHeartbeats 1000000 in
theorem rdec_no0_np (S SS : ByteArray) (k m : Nat) (w : World) (hz : S.size ≤ 1000000000000000001) (hk : k = S.size) (hm0 : m = 0) (hext : S.extract 0 k = SS)
    (HD : Hid (∀ W, Calls Tryz.prog 76 #[.string S, .int .i64 0] W fun e w' => e = .returned (.int .i64 (k : Nat)) ∧ W = w'))
    (h0 : k = 0) :
    Calls Tryz.prog 62 #[.string S] w fun e w' => e = .returned (.tuple #[fv 0, .bool false]) ∧ w = w' := by
  subst hk hm0
  have h00 : ((S.size : Int) == 0) = true := beq_iff_eq.2 (by omega)
  clear h0
  go_enter Tryz.func62, Tryz.ntmps62
  go_wp2_with (go_at_call 76; refine (HD.out _).mono ?_; rintro e w1 ⟨rfl, rfl⟩)
  go_ret2
  exact ⟨rfl, rfl⟩
set_option maxHeartbeats 1000000 in
theorem rdec_no1_np (S SS : ByteArray) (k m : Nat) (w : World) (hz : S.size ≤ 1000000000000000001) (hk : k = S.size) (hm0 : m = 0) (hext : S.extract 0 k = SS)
    (HD : Hid (∀ W, Calls Tryz.prog 76 #[.string S, .int .i64 0] W fun e w' => e = .returned (.int .i64 (k : Nat)) ∧ W = w'))
    (h0 : 0 < k) (h15 : 15 < SS.size) :
    Calls Tryz.prog 62 #[.string S] w fun e w' => e = .returned (.tuple #[fv 0, .bool false]) ∧ w = w' := by
  subst hk hm0
  have h00 : ((S.size : Int) == 0) = false := beq_eq_false_iff_ne.2 (by omega)
  go_enter Tryz.func62, Tryz.ntmps62
  go_wp2_with (go_at_call 76; refine (HD.out _).mono ?_; rintro e w1 ⟨rfl, rfl⟩)
  go_ret2
  exact ⟨rfl, rfl⟩
set_option maxHeartbeats 1000000 in
theorem rdec_yes_np (S SS : ByteArray) (k m : Nat) (w : World) (hz : S.size ≤ 1000000000000000001) (hk : k = S.size) (hm0 : m = 0) (hext : S.extract 0 k = SS)
    (HD : Hid (∀ W, Calls Tryz.prog 76 #[.string S, .int .i64 0] W fun e w' => e = .returned (.int .i64 (k : Nat)) ∧ W = w'))
    (q : Nat) (L : List UInt8) (h0 : 0 < k) (h15 : SS.size ≤ 15) (hL : SS.data.toList = L) (hall : L.all isD = true) (hm : m ≤ 15) (hq : fop .quo (fl (numL L)) (fl (10 ^ m)) = some q) :
    Calls Tryz.prog 62 #[.string S] w fun e w' => e = .returned (.tuple #[fv q, .bool true]) ∧ w = w' := by
  subst hk hm0
  have h00 : ((S.size : Int) == 0) = false := beq_eq_false_iff_ne.2 (by omega)
  have HL := Lib.hid hL
  have HA := Lib.hid hall
  have HQ := Lib.hid hq
  have HLL : Hid (L.length = SS.size) := by unfold Hid; rw [← hL]; simp
  clear hL hall hq
  go_enter Tryz.func62, Tryz.ntmps62
  go_wp2_with (go_at_call 76; refine (HD.out _).mono ?_; rintro e w1 ⟨rfl, rfl⟩)
  go_loop [7, 9] (fun x i => ∃ j : Nat, i = .int .i64 j ∧ j ≤ SS.size ∧ x = fv (fl (numL (L.take j)))) (fun _ i => SS.size - (intOf i).toNat)
  case atStart => exact ⟨0, rfl, Nat.zero_le _, congrArg fv zero_fl⟩
  case round =>
    obtain ⟨j, rfl, hj, rfl⟩ := hrel
    by_cases hlt : j < SS.size
    · have hX := numL_bd14 L HA.out (by rw [HLL.out]; exact h15) j (by rw [HLL.out]; exact hlt)
      have hcd := isD_at HA.out j (by rw [HLL.out]; exact hlt)
      have HT := Lib.hid (take_getD L j (by rw [HLL.out]; exact hlt))
      have HN := Lib.hid (numL_snoc (L.take j) (L.getD j 0))
      rw [get_list HL.out j hlt] at hcd HT HN
      generalize hX2 : numL (L.take j) = X at *
      have hc1 := hcd.1
      have hc2 := hcd.2
      clear hcd
      have e1 : (SS[j].toNat : Int) - 48 = ((SS[j].toNat - 48 : Nat) : Int) := by omega
      have hfi : floatOfInt .f64 ((SS[j].toNat : Int) - 48) = fl (SS[j].toNat - 48) := by rw [e1, floatOfInt_nat]
      have hmul := fun W => run_float_arith (P := Tryz.prog) W .mul 36 .f64 (fl X) 4621819117588971520 (fl (X * 10)) (by rw [ten_fl]; exact mul_int X 10 (by omega) (by omega))
      have hadd := fun W => run_float_arith (P := Tryz.prog) W .add 36 .f64 (fl (X * 10)) (fl (SS[j].toNat - 48)) (fl (X * 10 + (SS[j].toNat - 48))) (add_int (X * 10) (SS[j].toNat - 48) (by omega) (by omega))
      have HX : Hid (fl (X * 10 + (SS[j].toNat - 48)) = fl (numL (L.take (j + 1)))) := by rw [Hid, HT.out, HN.out]
      clear hX HN HT hX2 e1
      generalize fl (X * 10 + (SS[j].toNat - 48)) = x2 at *
      generalize fl (SS[j].toNat - 48) = d at *
      generalize fl (X * 10) = x1 at *
      generalize fl X = x at *
      go_wp2_with fail
      go_round
      case rel => exact ⟨j + 1, by go_num, by omega, by rw [HX.out]⟩
      case measure => simp [intOf]; omega
    · obtain rfl : j = SS.size := by omega
      have HTL : Hid (L.take SS.size = L) := by rw [Hid, ← HLL.out, List.take_length]
      rw [HTL.out]
      generalize fl (numL L) = x at *
      go_wp2_with fail
      go_loop [8, 10] (fun y i => ∃ j : Nat, i = .int .i64 j ∧ j ≤ 0 ∧ y = fv (fl (10 ^ j))) (fun _ i => 0 - (intOf i).toNat)
      case atStart => exact ⟨0, rfl, Nat.zero_le _, congrArg fv (by rw [Nat.pow_zero]; exact one_fl)⟩
      case round =>
        obtain ⟨j, rfl, hj2, rfl⟩ := hrel
        · obtain rfl : 0 = j := by omega
          have hquo := fun W => run_float_arith (P := Tryz.prog) W .quo 36 .f64 x (fl (10 ^ 0)) q HQ.out
          generalize fl (10 ^ 0) = y at *
          go_wp2_with fail
          go_ret2
          exact ⟨rfl, rfl⟩
end Go.Proofs.YtjanpaallealgaaGreatDoor.flt
