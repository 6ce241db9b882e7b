/-
  Proved: what the document's own powers returns, way by way (written by wip/bin/rpow.py). Conditions: as each theorem says.
-/
import Derived.Test.YtjanpaallealgaaGreatDoorFlt18
namespace Go.Proofs.YtjanpaallealgaaGreatDoor.flt
open Go.RowKit Ieee
set_option linter.unusedVariables false
set_option maxRecDepth 100000

/-- A float halved or doubled once. -/
def stp (neg : Bool) (a : Nat) : Nat := (if neg then fop .quo a two else fop .mul a two).getD 0
def itr (neg : Bool) : Nat → Nat → Nat
  | 0, a => a
  | n + 1, a => stp neg (itr neg n a)
theorem stp_ok (neg : Bool) (a : Nat) (h : a ≤ INF) : (if neg then fop .quo a two else fop .mul a two) = some (stp neg a) ∧ stp neg a ≤ INF := by
  rcases Nat.lt_or_eq_of_le h with h | rfl
  · cases neg
    · obtain ⟨r, h1, h2⟩ := mul_some a two h two_ok.1
      simp only [stp, Bool.false_eq_true, if_false, h1, Option.getD_some]
      exact ⟨trivial, h2⟩
    · obtain ⟨q, h1, h2, _⟩ := half a h
      simp only [stp, if_true, h2, Option.getD_some]
      exact ⟨trivial, Nat.le_of_lt h1⟩
  · cases neg
    · exact ⟨by decide +kernel, by decide +kernel⟩
    · exact ⟨by decide +kernel, by decide +kernel⟩
theorem itr_le (neg : Bool) (n a : Nat) (h : a ≤ INF) : itr neg n a ≤ INF := by
  induction n with
  | zero => exact h
  | succ n ih => exact (stp_ok neg _ ih).2
theorem fl_inf (n : Nat) : fl n ≤ INF := near_le n 0
theorem conv_uf (n : Nat) (w : World) : (convert 56 36 (.int .u64 n)).run Tryz.prog w = .ok (.float .f64 (fl n)) w := by
  have := run_convert_int_float w 56 36 .u64 .f64 (n : Int) (P := Tryz.prog) (by kernel_rfl) (by kernel_rfl)
  rw [floatOfInt_nat] at this
  exact this
set_option maxHeartbeats 1000000 in
theorem pow_k0 (S : ByteArray) (k : Nat) (w : World) (hz : S.size ≤ 1000000000000000001)
    (HD : Hid (∀ W, Calls Tryz.prog 76 #[.string S, .int .i64 0] W fun e w' => e = .returned (.int .i64 (k : Nat)) ∧ W = w'))
    (h : k = 0) :
    Calls Tryz.prog 63 #[.string S] w fun e w' => e = .returned (.tuple #[fv 0, .bool false]) ∧ w = w' := by
  subst h
  go_enter Tryz.func63, Tryz.ntmps63
  go_wp2_with (go_at_call 76; refine (HD.out _).mono ?_; rintro e w1 ⟨rfl, rfl⟩)
  go_ret2
  exact ⟨rfl, rfl⟩
set_option maxHeartbeats 1000000 in
theorem pow_k16 (S : ByteArray) (k : Nat) (w : World) (hz : S.size ≤ 1000000000000000001)
    (HD : Hid (∀ W, Calls Tryz.prog 76 #[.string S, .int .i64 0] W fun e w' => e = .returned (.int .i64 (k : Nat)) ∧ W = w'))
    (h0 : 0 < k) (h : 16 < k) (hb : k ≤ S.size) :
    Calls Tryz.prog 63 #[.string S] w fun e w' => e = .returned (.tuple #[fv 0, .bool false]) ∧ w = w' := by
  have hk0 : ((k : Int) == 0) = false := beq_eq_false_iff_ne.2 (by omega)
  go_enter Tryz.func63, Tryz.ntmps63
  go_wp2_with (go_at_call 76; refine (HD.out _).mono ?_; rintro e w1 ⟨rfl, rfl⟩)
  go_ret2
  exact ⟨rfl, rfl⟩
set_option maxHeartbeats 1000000 in
theorem pow_end (S : ByteArray) (k : Nat) (w : World) (hz : S.size ≤ 1000000000000000001)
    (HD : Hid (∀ W, Calls Tryz.prog 76 #[.string S, .int .i64 0] W fun e w' => e = .returned (.int .i64 (k : Nat)) ∧ W = w'))
    (h0 : 0 < k) (h : k ≤ 16) (hb : k = S.size) :
    Calls Tryz.prog 63 #[.string S] w fun e w' => e = .returned (.tuple #[fv 0, .bool false]) ∧ w = w' := by
  subst hb
  have hk0 : ((S.size : Int) == 0) = false := beq_eq_false_iff_ne.2 (by omega)
  go_enter Tryz.func63, Tryz.ntmps63
  go_wp2_with (go_at_call 76; refine (HD.out _).mono ?_; rintro e w1 ⟨rfl, rfl⟩)
  go_ret2
  exact ⟨rfl, rfl⟩
set_option maxHeartbeats 1000000 in
theorem pow_p (S : ByteArray) (k : Nat) (w : World) (hz : S.size ≤ 1000000000000000001)
    (HD : Hid (∀ W, Calls Tryz.prog 76 #[.string S, .int .i64 0] W fun e w' => e = .returned (.int .i64 (k : Nat)) ∧ W = w'))
    (h0 : 0 < k) (h : k ≤ 16) (hk : k < S.size) (hne : ((S[k].toNat : Int) != 112) = true) :
    Calls Tryz.prog 63 #[.string S] w fun e w' => e = .returned (.tuple #[fv 0, .bool false]) ∧ w = w' := by
  have hk0 : ((k : Int) == 0) = false := beq_eq_false_iff_ne.2 (by omega)
  go_enter Tryz.func63, Tryz.ntmps63
  go_wp2_with (go_at_call 76; refine (HD.out _).mono ?_; rintro e w1 ⟨rfl, rfl⟩)
  go_ret2
  exact ⟨rfl, rfl⟩
set_option maxHeartbeats 1000000 in
theorem pow_T0 (S : ByteArray) (k : Nat) (w : World) (hz : S.size ≤ 1000000000000000001)
    (HD : Hid (∀ W, Calls Tryz.prog 76 #[.string S, .int .i64 0] W fun e w' => e = .returned (.int .i64 (k : Nat)) ∧ W = w'))
    (h0 : 0 < k) (h : k ≤ 16) (hk : k < S.size) (hp : ((S[k].toNat : Int) != 112) = false) (T0 : ByteArray) (hT0 : S.extract (k + 1) S.size = T0) (hs : T0.size = 0) :
    Calls Tryz.prog 63 #[.string S] w fun e w' => e = .returned (.tuple #[fv 0, .bool false]) ∧ w = w' := by
  have hk0 : ((k : Int) == 0) = false := beq_eq_false_iff_ne.2 (by omega)
  have hs1 : ¬ 0 < T0.size := by omega
  have hs2 : T0.size < 1 := by omega
  clear hs
  go_enter Tryz.func63, Tryz.ntmps63
  go_wp2_with (go_at_call 76; refine (HD.out _).mono ?_; rintro e w1 ⟨rfl, rfl⟩)
  go_ret2
  exact ⟨rfl, rfl⟩
set_option maxHeartbeats 1000000 in
theorem pow_T1_n (S : ByteArray) (k : Nat) (w : World) (hz : S.size ≤ 1000000000000000001)
    (HD : Hid (∀ W, Calls Tryz.prog 76 #[.string S, .int .i64 0] W fun e w' => e = .returned (.int .i64 (k : Nat)) ∧ W = w'))
    (h0 : 0 < k) (h : k ≤ 16) (hk : k < S.size) (hp : ((S[k].toNat : Int) != 112) = false) (T0 : ByteArray) (hT0 : S.extract (k + 1) S.size = T0) (T : ByteArray) (hl0 : 0 < T0.size) (hl1 : T0.size ≤ 1000000000000000001) (hh : ((T0[0].toNat : Int) == 45) = true) (hT : T0.extract 1 T0.size = T) (hs : T.size = 0) :
    Calls Tryz.prog 63 #[.string S] w fun e w' => e = .returned (.tuple #[fv 0, .bool false]) ∧ w = w' := by
  have hk0 : ((k : Int) == 0) = false := beq_eq_false_iff_ne.2 (by omega)
  have hs2 : T.size < 1 := by omega
  clear hs
  go_enter Tryz.func63, Tryz.ntmps63
  go_wp2_with (go_at_call 76; refine (HD.out _).mono ?_; rintro e w1 ⟨rfl, rfl⟩)
  go_ret2
  exact ⟨rfl, rfl⟩
set_option maxHeartbeats 1000000 in
theorem pow_T4_n (S : ByteArray) (k : Nat) (w : World) (hz : S.size ≤ 1000000000000000001)
    (HD : Hid (∀ W, Calls Tryz.prog 76 #[.string S, .int .i64 0] W fun e w' => e = .returned (.int .i64 (k : Nat)) ∧ W = w'))
    (h0 : 0 < k) (h : k ≤ 16) (hk : k < S.size) (hp : ((S[k].toNat : Int) != 112) = false) (T0 : ByteArray) (hT0 : S.extract (k + 1) S.size = T0) (T : ByteArray) (hl0 : 0 < T0.size) (hl1 : T0.size ≤ 1000000000000000001) (hh : ((T0[0].toNat : Int) == 45) = true) (hT : T0.extract 1 T0.size = T) (hs : 4 < T.size) :
    Calls Tryz.prog 63 #[.string S] w fun e w' => e = .returned (.tuple #[fv 0, .bool false]) ∧ w = w' := by
  have hk0 : ((k : Int) == 0) = false := beq_eq_false_iff_ne.2 (by omega)
  have hs2 : ¬ T.size < 1 := by omega
  go_enter Tryz.func63, Tryz.ntmps63
  go_wp2_with (go_at_call 76; refine (HD.out _).mono ?_; rintro e w1 ⟨rfl, rfl⟩)
  go_ret2
  exact ⟨rfl, rfl⟩
set_option maxHeartbeats 1000000 in
theorem pow_Td_n (S : ByteArray) (k : Nat) (w : World) (hz : S.size ≤ 1000000000000000001)
    (HD : Hid (∀ W, Calls Tryz.prog 76 #[.string S, .int .i64 0] W fun e w' => e = .returned (.int .i64 (k : Nat)) ∧ W = w'))
    (h0 : 0 < k) (h : k ≤ 16) (hk : k < S.size) (hp : ((S[k].toNat : Int) != 112) = false) (T0 : ByteArray) (hT0 : S.extract (k + 1) S.size = T0) (T : ByteArray) (hl0 : 0 < T0.size) (hl1 : T0.size ≤ 1000000000000000001) (hh : ((T0[0].toNat : Int) == 45) = true) (hT : T0.extract 1 T0.size = T) (d : Nat) (hs : 1 ≤ T.size) (hs4 : T.size ≤ 4) (HT : Hid (∀ W, Calls Tryz.prog 76 #[.string T, .int .i64 0] W fun e w' => e = .returned (.int .i64 (d : Nat)) ∧ W = w')) (hd : d < T.size) :
    Calls Tryz.prog 63 #[.string S] w fun e w' => e = .returned (.tuple #[fv 0, .bool false]) ∧ w = w' := by
  have hk0 : ((k : Int) == 0) = false := beq_eq_false_iff_ne.2 (by omega)
  have hs2 : ¬ T.size < 1 := by omega
  have hd2 : ((d : Int) != (T.size : Int)) = true := bne_iff_ne.2 (by omega)
  have hd3 : ¬ d = T.size := by omega
  clear hd
  go_enter Tryz.func63, Tryz.ntmps63
  go_wp2_with (go_at_call 76; first | ((with_reducible refine (HD.out _).mono ?_); rintro e w1 ⟨rfl, rfl⟩) | ((with_reducible refine (HT.out _).mono ?_); rintro e w1 ⟨rfl, rfl⟩))
  go_ret2
  exact ⟨rfl, rfl⟩
set_option maxHeartbeats 1000000 in
theorem pow_E1_n (S : ByteArray) (k : Nat) (w : World) (hz : S.size ≤ 1000000000000000001)
    (HD : Hid (∀ W, Calls Tryz.prog 76 #[.string S, .int .i64 0] W fun e w' => e = .returned (.int .i64 (k : Nat)) ∧ W = w'))
    (h0 : 0 < k) (h : k ≤ 16) (hk : k < S.size) (hp : ((S[k].toNat : Int) != 112) = false) (T0 : ByteArray) (hT0 : S.extract (k + 1) S.size = T0) (T : ByteArray) (hl0 : 0 < T0.size) (hl1 : T0.size ≤ 1000000000000000001) (hh : ((T0[0].toNat : Int) == 45) = true) (hT : T0.extract 1 T0.size = T) (d : Nat) (hs : 1 ≤ T.size) (hs4 : T.size ≤ 4) (HT : Hid (∀ W, Calls Tryz.prog 76 #[.string T, .int .i64 0] W fun e w' => e = .returned (.int .i64 (d : Nat)) ∧ W = w')) (hd : d = T.size) (FF : ByteArray) (hF : S.extract 0 k = FF) (m x : Nat) (e1 e2 : Int) (HF : Hid (∀ W, Calls Tryz.prog 77 #[.string FF] W fun e w' => e = .returned (.tuple #[.int .u64 m, .int .i64 e1]) ∧ W = w')) (HX : Hid (∀ W, Calls Tryz.prog 77 #[.string T] W fun e w' => e = .returned (.tuple #[.int .u64 x, .int .i64 e2]) ∧ W = w')) (he : e1 = 101) :
    Calls Tryz.prog 63 #[.string S] w fun e w' => e = .returned (.tuple #[fv 0, .bool false]) ∧ w = w' := by
  have hk0 : ((k : Int) == 0) = false := beq_eq_false_iff_ne.2 (by omega)
  subst hd
  have hs2 : ¬ T.size < 1 := by omega
  subst he
  go_enter Tryz.func63, Tryz.ntmps63
  go_wp2_with (first | (go_at_call 76; first | ((with_reducible refine (HD.out _).mono ?_); rintro e w1 ⟨rfl, rfl⟩) | ((with_reducible refine (HT.out _).mono ?_); rintro e w1 ⟨rfl, rfl⟩)) | (go_at_call 77; first | ((with_reducible refine (HF.out _).mono ?_); rintro e w1 ⟨rfl, rfl⟩) | ((with_reducible refine (HX.out _).mono ?_); rintro e w1 ⟨rfl, rfl⟩)))
  go_ret2
  exact ⟨rfl, rfl⟩
set_option maxHeartbeats 1000000 in
theorem pow_E2_n (S : ByteArray) (k : Nat) (w : World) (hz : S.size ≤ 1000000000000000001)
    (HD : Hid (∀ W, Calls Tryz.prog 76 #[.string S, .int .i64 0] W fun e w' => e = .returned (.int .i64 (k : Nat)) ∧ W = w'))
    (h0 : 0 < k) (h : k ≤ 16) (hk : k < S.size) (hp : ((S[k].toNat : Int) != 112) = false) (T0 : ByteArray) (hT0 : S.extract (k + 1) S.size = T0) (T : ByteArray) (hl0 : 0 < T0.size) (hl1 : T0.size ≤ 1000000000000000001) (hh : ((T0[0].toNat : Int) == 45) = true) (hT : T0.extract 1 T0.size = T) (d : Nat) (hs : 1 ≤ T.size) (hs4 : T.size ≤ 4) (HT : Hid (∀ W, Calls Tryz.prog 76 #[.string T, .int .i64 0] W fun e w' => e = .returned (.int .i64 (d : Nat)) ∧ W = w')) (hd : d = T.size) (FF : ByteArray) (hF : S.extract 0 k = FF) (m x : Nat) (e1 e2 : Int) (HF : Hid (∀ W, Calls Tryz.prog 77 #[.string FF] W fun e w' => e = .returned (.tuple #[.int .u64 m, .int .i64 e1]) ∧ W = w')) (HX : Hid (∀ W, Calls Tryz.prog 77 #[.string T] W fun e w' => e = .returned (.tuple #[.int .u64 x, .int .i64 e2]) ∧ W = w')) (he : e1 = 0) (he2 : e2 = 101) :
    Calls Tryz.prog 63 #[.string S] w fun e w' => e = .returned (.tuple #[fv 0, .bool false]) ∧ w = w' := by
  have hk0 : ((k : Int) == 0) = false := beq_eq_false_iff_ne.2 (by omega)
  subst hd
  have hs2 : ¬ T.size < 1 := by omega
  subst he
  subst he2
  go_enter Tryz.func63, Tryz.ntmps63
  go_wp2_with (first | (go_at_call 76; first | ((with_reducible refine (HD.out _).mono ?_); rintro e w1 ⟨rfl, rfl⟩) | ((with_reducible refine (HT.out _).mono ?_); rintro e w1 ⟨rfl, rfl⟩)) | (go_at_call 77; first | ((with_reducible refine (HF.out _).mono ?_); rintro e w1 ⟨rfl, rfl⟩) | ((with_reducible refine (HX.out _).mono ?_); rintro e w1 ⟨rfl, rfl⟩)))
  go_ret2
  exact ⟨rfl, rfl⟩
set_option maxHeartbeats 1000000 in
theorem pow_ok_n (S : ByteArray) (k : Nat) (w : World) (hz : S.size ≤ 1000000000000000001)
    (HD : Hid (∀ W, Calls Tryz.prog 76 #[.string S, .int .i64 0] W fun e w' => e = .returned (.int .i64 (k : Nat)) ∧ W = w'))
    (h0 : 0 < k) (h : k ≤ 16) (hk : k < S.size) (hp : ((S[k].toNat : Int) != 112) = false) (T0 : ByteArray) (hT0 : S.extract (k + 1) S.size = T0) (T : ByteArray) (hl0 : 0 < T0.size) (hl1 : T0.size ≤ 1000000000000000001) (hh : ((T0[0].toNat : Int) == 45) = true) (hT : T0.extract 1 T0.size = T) (d : Nat) (hs : 1 ≤ T.size) (hs4 : T.size ≤ 4) (HT : Hid (∀ W, Calls Tryz.prog 76 #[.string T, .int .i64 0] W fun e w' => e = .returned (.int .i64 (d : Nat)) ∧ W = w')) (hd : d = T.size) (FF : ByteArray) (hF : S.extract 0 k = FF) (m x : Nat) (e1 e2 : Int) (HF : Hid (∀ W, Calls Tryz.prog 77 #[.string FF] W fun e w' => e = .returned (.tuple #[.int .u64 m, .int .i64 e1]) ∧ W = w')) (HX : Hid (∀ W, Calls Tryz.prog 77 #[.string T] W fun e w' => e = .returned (.tuple #[.int .u64 x, .int .i64 e2]) ∧ W = w')) (he : e1 = 0) (he2 : e2 = 0) (hx : x ≤ 9999) :
    Calls Tryz.prog 63 #[.string S] w fun e w' => e = .returned (.tuple #[fv (itr true x (fl m)), .bool ((txt (itr true x (fl m))).toList == S.toList)]) ∧ Below w.heap.size w w' := by
  have hk0 : ((k : Int) == 0) = false := beq_eq_false_iff_ne.2 (by omega)
  subst hd
  have hs2 : ¬ T.size < 1 := by omega
  subst he
  subst he2
  have hcv := fun W => conv_uf m W
  go_enter Tryz.func63, Tryz.ntmps63
  go_wp2_with (first | (go_at_call 76; first | ((with_reducible refine (HD.out _).mono ?_); rintro e w1 ⟨rfl, rfl⟩) | ((with_reducible refine (HT.out _).mono ?_); rintro e w1 ⟨rfl, rfl⟩)) | (go_at_call 77; first | ((with_reducible refine (HF.out _).mono ?_); rintro e w1 ⟨rfl, rfl⟩) | ((with_reducible refine (HX.out _).mono ?_); rintro e w1 ⟨rfl, rfl⟩)))
  go_loop [11, 12] (fun v i => ∃ j : Nat, i = .int .u64 j ∧ j ≤ x ∧ v = fv (itr true j (fl m))) (fun _ i => x - (intOf i).toNat)
  case atStart => exact ⟨0, rfl, Nat.zero_le _, rfl⟩
  case round =>
    obtain ⟨j, rfl, hj, rfl⟩ := hrel
    by_cases hlt : j < x
    · have hst := (stp_ok true (itr true j (fl m)) (itr_le _ _ _ (fl_inf m))).1
      simp only [Bool.false_eq_true, if_false, if_true] at hst
      have hop := fun W => run_float_arith (P := Tryz.prog) W .quo 36 .f64 (itr true j (fl m)) two (stp true (itr true j (fl m))) hst
      unfold two at hop
      have HN : Hid (stp true (itr true j (fl m)) = itr true (j + 1) (fl m)) := rfl
      clear hst
      generalize stp true (itr true j (fl m)) = y at *
      generalize itr true j (fl m) = z at *
      have hw : IntKind.u64.wrap ((j : Int) + 1) = ((j + 1 : Nat) : Int) := by rw [IntKind.wrap_u64]; omega
      go_wp2_with fail
      go_round
      case rel => exact ⟨j + 1, by go_num, by omega, by rw [HN.out]⟩
      case measure => simp [intOf]; omega
    · obtain rfl : j = x := by omega
      have HXT := Lib.hid (fun W => rText_any (itr true j (fl m)) W (Nat.lt_of_le_of_lt (itr_le _ _ _ (fl_inf m)) (by unfold INF; omega)))
      generalize hz1 : itr true j (fl m) = z at *
      generalize hz2 : txt z = Z at *
      have HZ1 := Lib.hid hz1
      have HZ2 := Lib.hid hz2
      clear hz1 hz2
      go_wp2_with fail
      (with_reducible refine (HXT.out _).mono ?_); rintro e w2 ⟨rfl, hb2⟩
      go_wp2_with fail
      go_ret2
      exact ⟨by rw [HZ1.out, HZ2.out]; rfl, hb2⟩
set_option maxHeartbeats 1000000 in
theorem pow_T4_p (S : ByteArray) (k : Nat) (w : World) (hz : S.size ≤ 1000000000000000001)
    (HD : Hid (∀ W, Calls Tryz.prog 76 #[.string S, .int .i64 0] W fun e w' => e = .returned (.int .i64 (k : Nat)) ∧ W = w'))
    (h0 : 0 < k) (h : k ≤ 16) (hk : k < S.size) (hp : ((S[k].toNat : Int) != 112) = false) (T0 : ByteArray) (hT0 : S.extract (k + 1) S.size = T0) (T : ByteArray) (hl0 : 0 < T0.size) (hl1 : T0.size ≤ 1000000000000000001) (hh : ((T0[0].toNat : Int) == 45) = false) (hT : T0 = T) (hs : 4 < T.size) :
    Calls Tryz.prog 63 #[.string S] w fun e w' => e = .returned (.tuple #[fv 0, .bool false]) ∧ w = w' := by
  have hk0 : ((k : Int) == 0) = false := beq_eq_false_iff_ne.2 (by omega)
  subst hT
  have hs2 : ¬ T0.size < 1 := by omega
  go_enter Tryz.func63, Tryz.ntmps63
  go_wp2_with (go_at_call 76; refine (HD.out _).mono ?_; rintro e w1 ⟨rfl, rfl⟩)
  go_ret2
  exact ⟨rfl, rfl⟩
set_option maxHeartbeats 1000000 in
theorem pow_Td_p (S : ByteArray) (k : Nat) (w : World) (hz : S.size ≤ 1000000000000000001)
    (HD : Hid (∀ W, Calls Tryz.prog 76 #[.string S, .int .i64 0] W fun e w' => e = .returned (.int .i64 (k : Nat)) ∧ W = w'))
    (h0 : 0 < k) (h : k ≤ 16) (hk : k < S.size) (hp : ((S[k].toNat : Int) != 112) = false) (T0 : ByteArray) (hT0 : S.extract (k + 1) S.size = T0) (T : ByteArray) (hl0 : 0 < T0.size) (hl1 : T0.size ≤ 1000000000000000001) (hh : ((T0[0].toNat : Int) == 45) = false) (hT : T0 = T) (d : Nat) (hs : 1 ≤ T.size) (hs4 : T.size ≤ 4) (HT : Hid (∀ W, Calls Tryz.prog 76 #[.string T, .int .i64 0] W fun e w' => e = .returned (.int .i64 (d : Nat)) ∧ W = w')) (hd : d < T.size) :
    Calls Tryz.prog 63 #[.string S] w fun e w' => e = .returned (.tuple #[fv 0, .bool false]) ∧ w = w' := by
  have hk0 : ((k : Int) == 0) = false := beq_eq_false_iff_ne.2 (by omega)
  subst hT
  have hs2 : ¬ T0.size < 1 := by omega
  have hd2 : ((d : Int) != (T0.size : Int)) = true := bne_iff_ne.2 (by omega)
  have hd3 : ¬ d = T0.size := by omega
  clear hd
  go_enter Tryz.func63, Tryz.ntmps63
  go_wp2_with (go_at_call 76; first | ((with_reducible refine (HD.out _).mono ?_); rintro e w1 ⟨rfl, rfl⟩) | ((with_reducible refine (HT.out _).mono ?_); rintro e w1 ⟨rfl, rfl⟩))
  go_ret2
  exact ⟨rfl, rfl⟩
set_option maxHeartbeats 1000000 in
theorem pow_E1_p (S : ByteArray) (k : Nat) (w : World) (hz : S.size ≤ 1000000000000000001)
    (HD : Hid (∀ W, Calls Tryz.prog 76 #[.string S, .int .i64 0] W fun e w' => e = .returned (.int .i64 (k : Nat)) ∧ W = w'))
    (h0 : 0 < k) (h : k ≤ 16) (hk : k < S.size) (hp : ((S[k].toNat : Int) != 112) = false) (T0 : ByteArray) (hT0 : S.extract (k + 1) S.size = T0) (T : ByteArray) (hl0 : 0 < T0.size) (hl1 : T0.size ≤ 1000000000000000001) (hh : ((T0[0].toNat : Int) == 45) = false) (hT : T0 = T) (d : Nat) (hs : 1 ≤ T.size) (hs4 : T.size ≤ 4) (HT : Hid (∀ W, Calls Tryz.prog 76 #[.string T, .int .i64 0] W fun e w' => e = .returned (.int .i64 (d : Nat)) ∧ W = w')) (hd : d = T.size) (FF : ByteArray) (hF : S.extract 0 k = FF) (m x : Nat) (e1 e2 : Int) (HF : Hid (∀ W, Calls Tryz.prog 77 #[.string FF] W fun e w' => e = .returned (.tuple #[.int .u64 m, .int .i64 e1]) ∧ W = w')) (HX : Hid (∀ W, Calls Tryz.prog 77 #[.string T] W fun e w' => e = .returned (.tuple #[.int .u64 x, .int .i64 e2]) ∧ W = w')) (he : e1 = 101) :
    Calls Tryz.prog 63 #[.string S] w fun e w' => e = .returned (.tuple #[fv 0, .bool false]) ∧ w = w' := by
  have hk0 : ((k : Int) == 0) = false := beq_eq_false_iff_ne.2 (by omega)
  subst hT
  subst hd
  have hs2 : ¬ T0.size < 1 := by omega
  subst he
  go_enter Tryz.func63, Tryz.ntmps63
  go_wp2_with (first | (go_at_call 76; first | ((with_reducible refine (HD.out _).mono ?_); rintro e w1 ⟨rfl, rfl⟩) | ((with_reducible refine (HT.out _).mono ?_); rintro e w1 ⟨rfl, rfl⟩)) | (go_at_call 77; first | ((with_reducible refine (HF.out _).mono ?_); rintro e w1 ⟨rfl, rfl⟩) | ((with_reducible refine (HX.out _).mono ?_); rintro e w1 ⟨rfl, rfl⟩)))
  go_ret2
  exact ⟨rfl, rfl⟩
set_option maxHeartbeats 1000000 in
theorem pow_E2_p (S : ByteArray) (k : Nat) (w : World) (hz : S.size ≤ 1000000000000000001)
    (HD : Hid (∀ W, Calls Tryz.prog 76 #[.string S, .int .i64 0] W fun e w' => e = .returned (.int .i64 (k : Nat)) ∧ W = w'))
    (h0 : 0 < k) (h : k ≤ 16) (hk : k < S.size) (hp : ((S[k].toNat : Int) != 112) = false) (T0 : ByteArray) (hT0 : S.extract (k + 1) S.size = T0) (T : ByteArray) (hl0 : 0 < T0.size) (hl1 : T0.size ≤ 1000000000000000001) (hh : ((T0[0].toNat : Int) == 45) = false) (hT : T0 = T) (d : Nat) (hs : 1 ≤ T.size) (hs4 : T.size ≤ 4) (HT : Hid (∀ W, Calls Tryz.prog 76 #[.string T, .int .i64 0] W fun e w' => e = .returned (.int .i64 (d : Nat)) ∧ W = w')) (hd : d = T.size) (FF : ByteArray) (hF : S.extract 0 k = FF) (m x : Nat) (e1 e2 : Int) (HF : Hid (∀ W, Calls Tryz.prog 77 #[.string FF] W fun e w' => e = .returned (.tuple #[.int .u64 m, .int .i64 e1]) ∧ W = w')) (HX : Hid (∀ W, Calls Tryz.prog 77 #[.string T] W fun e w' => e = .returned (.tuple #[.int .u64 x, .int .i64 e2]) ∧ W = w')) (he : e1 = 0) (he2 : e2 = 101) :
    Calls Tryz.prog 63 #[.string S] w fun e w' => e = .returned (.tuple #[fv 0, .bool false]) ∧ w = w' := by
  have hk0 : ((k : Int) == 0) = false := beq_eq_false_iff_ne.2 (by omega)
  subst hT
  subst hd
  have hs2 : ¬ T0.size < 1 := by omega
  subst he
  subst he2
  go_enter Tryz.func63, Tryz.ntmps63
  go_wp2_with (first | (go_at_call 76; first | ((with_reducible refine (HD.out _).mono ?_); rintro e w1 ⟨rfl, rfl⟩) | ((with_reducible refine (HT.out _).mono ?_); rintro e w1 ⟨rfl, rfl⟩)) | (go_at_call 77; first | ((with_reducible refine (HF.out _).mono ?_); rintro e w1 ⟨rfl, rfl⟩) | ((with_reducible refine (HX.out _).mono ?_); rintro e w1 ⟨rfl, rfl⟩)))
  go_ret2
  exact ⟨rfl, rfl⟩
set_option maxHeartbeats 1000000 in
theorem pow_ok_p (S : ByteArray) (k : Nat) (w : World) (hz : S.size ≤ 1000000000000000001)
    (HD : Hid (∀ W, Calls Tryz.prog 76 #[.string S, .int .i64 0] W fun e w' => e = .returned (.int .i64 (k : Nat)) ∧ W = w'))
    (h0 : 0 < k) (h : k ≤ 16) (hk : k < S.size) (hp : ((S[k].toNat : Int) != 112) = false) (T0 : ByteArray) (hT0 : S.extract (k + 1) S.size = T0) (T : ByteArray) (hl0 : 0 < T0.size) (hl1 : T0.size ≤ 1000000000000000001) (hh : ((T0[0].toNat : Int) == 45) = false) (hT : T0 = T) (d : Nat) (hs : 1 ≤ T.size) (hs4 : T.size ≤ 4) (HT : Hid (∀ W, Calls Tryz.prog 76 #[.string T, .int .i64 0] W fun e w' => e = .returned (.int .i64 (d : Nat)) ∧ W = w')) (hd : d = T.size) (FF : ByteArray) (hF : S.extract 0 k = FF) (m x : Nat) (e1 e2 : Int) (HF : Hid (∀ W, Calls Tryz.prog 77 #[.string FF] W fun e w' => e = .returned (.tuple #[.int .u64 m, .int .i64 e1]) ∧ W = w')) (HX : Hid (∀ W, Calls Tryz.prog 77 #[.string T] W fun e w' => e = .returned (.tuple #[.int .u64 x, .int .i64 e2]) ∧ W = w')) (he : e1 = 0) (he2 : e2 = 0) (hx : x ≤ 9999) :
    Calls Tryz.prog 63 #[.string S] w fun e w' => e = .returned (.tuple #[fv (itr false x (fl m)), .bool ((txt (itr false x (fl m))).toList == S.toList)]) ∧ Below w.heap.size w w' := by
  have hk0 : ((k : Int) == 0) = false := beq_eq_false_iff_ne.2 (by omega)
  subst hT
  subst hd
  have hs2 : ¬ T0.size < 1 := by omega
  subst he
  subst he2
  have hcv := fun W => conv_uf m W
  go_enter Tryz.func63, Tryz.ntmps63
  go_wp2_with (first | (go_at_call 76; first | ((with_reducible refine (HD.out _).mono ?_); rintro e w1 ⟨rfl, rfl⟩) | ((with_reducible refine (HT.out _).mono ?_); rintro e w1 ⟨rfl, rfl⟩)) | (go_at_call 77; first | ((with_reducible refine (HF.out _).mono ?_); rintro e w1 ⟨rfl, rfl⟩) | ((with_reducible refine (HX.out _).mono ?_); rintro e w1 ⟨rfl, rfl⟩)))
  go_loop [11, 12] (fun v i => ∃ j : Nat, i = .int .u64 j ∧ j ≤ x ∧ v = fv (itr false j (fl m))) (fun _ i => x - (intOf i).toNat)
  case atStart => exact ⟨0, rfl, Nat.zero_le _, rfl⟩
  case round =>
    obtain ⟨j, rfl, hj, rfl⟩ := hrel
    by_cases hlt : j < x
    · have hst := (stp_ok false (itr false j (fl m)) (itr_le _ _ _ (fl_inf m))).1
      simp only [Bool.false_eq_true, if_false, if_true] at hst
      have hop := fun W => run_float_arith (P := Tryz.prog) W .mul 36 .f64 (itr false j (fl m)) two (stp false (itr false j (fl m))) hst
      unfold two at hop
      have HN : Hid (stp false (itr false j (fl m)) = itr false (j + 1) (fl m)) := rfl
      clear hst
      generalize stp false (itr false j (fl m)) = y at *
      generalize itr false j (fl m) = z at *
      have hw : IntKind.u64.wrap ((j : Int) + 1) = ((j + 1 : Nat) : Int) := by rw [IntKind.wrap_u64]; omega
      go_wp2_with fail
      go_round
      case rel => exact ⟨j + 1, by go_num, by omega, by rw [HN.out]⟩
      case measure => simp [intOf]; omega
    · obtain rfl : j = x := by omega
      have HXT := Lib.hid (fun W => rText_any (itr false j (fl m)) W (Nat.lt_of_le_of_lt (itr_le _ _ _ (fl_inf m)) (by unfold INF; omega)))
      generalize hz1 : itr false j (fl m) = z at *
      generalize hz2 : txt z = Z at *
      have HZ1 := Lib.hid hz1
      have HZ2 := Lib.hid hz2
      clear hz1 hz2
      go_wp2_with fail
      (with_reducible refine (HXT.out _).mono ?_); rintro e w2 ⟨rfl, hb2⟩
      go_wp2_with fail
      go_ret2
      exact ⟨by rw [HZ1.out, HZ2.out]; rfl, hb2⟩
end Go.Proofs.YtjanpaallealgaaGreatDoor.flt
