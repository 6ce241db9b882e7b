/-
  Proved: FltRests as a contract. Conditions: as each theorem says.
-/
import Derived.Test.YtlfpdahofpacpaaDoorFltRest
import Derived.Deep.QuietTactic
import Derived.BigQuiet
namespace Go.Proofs.YtlfpdahofpacpaaDoor.flt
open Go.RowKit Ieee
set_option linter.unusedVariables false
set_option maxRecDepth 100000

theorem still {P : Program} {f : FuncId} {args : Array Value} {w : World} {n : Nat} {v : Value}
    (h : Calls P f args (w.drewN n) fun e w' => e = .returned v ∧ w.drewN n = w') : Calls P f args (w.drewN n) fun e w'' => e = .returned v ∧ ∃ m, w'' = w.drewN m :=
  h.mono fun _ _ ⟨he, hm⟩ => ⟨he, n, hm.symm⟩
theorem below_drewN {n : Nat} {w w' : World} (h : Below n w w') : ∀ k : Nat, Below n w (w'.drewN k)
  | 0 => h
  | k + 1 => (below_drewN h k).drew
attribute [local go_sem] run_bits
theorem Signbit_any (a : Nat) (w : World) (h : a < 18446744073709551616) : Calls Tryd.prog 28 #[fv a] w fun e w' => e = .returned (.bool (sgn a)) ∧ w = w' := by
  go_enter Tryd.func28, Tryd.ntmps28
  go_wp2_with fail
  go_ret
  exact ⟨ret_b (by unfold sgn; rw [Bool.eq_iff_iff, decide_eq_true_iff, decide_eq_true_iff]; unfold wrap64; omega), rfl⟩
theorem md_zero (a : Nat) : md a 0 = 9221120237041090561 := by
  unfold md
  rw [eq_00]; rfl
theorem nan_ne : (FloatKind.f64.format.order 9221120237041090561 9221120237041090561 != some Ordering.eq) = true := by decide +kernel
theorem tmod_bd (a d : Int) (h : 0 < d) : (a.tmod d).natAbs < d.natAbs := by
  rw [tmod_abs]; exact Nat.mod_lt _ (by omega)
theorem rests0 (a b : Int) (w : World) (h0 : b.tmod 1000 = 0) : Calls Tryd.prog 8 #[.int .i64 a, .int .i64 b] w fun e w' => e = .returned (.bool true) ∧ Below w.heap.size w w' := by
  obtain ⟨x, hx⟩ : ∃ x, a.tmod 1000000 = x := ⟨_, rfl⟩
  have hc := fun W => conv_if x W
  have hn := nan_ne
  have hxb := tmod_bd a 1000000 (by decide)
  rw [hx] at hxb
  replace hxb : x.natAbs < 1000000 := hxb
  have hP : PP ≤ 2045 := by rw [hPP]; omega
  have HM := Lib.hid (fun W => fMod_any (floatOfInt .f64 x) 0 W (by rw [foi_G x (by omega)]; exact (G_ok PP x hP (by omega)).1.1) (by decide))
  clear hP hxb
  rw [md_zero] at HM
  generalize floatOfInt .f64 x = X at *
  go_enter Tryd.func8, Tryd.ntmps8
  go_wp2_with fail
  refine (awake_any _).mono ?_; rintro e w1 ⟨rfl, hb1⟩
  have HB1 := Lib.hid hb1
  clear hb1
  go_wp2_with (go_at_call 12; refine (HM.out _).mono ?_; rintro e w1 ⟨rfl, rfl⟩)
  go_ret
  exact ⟨rfl, HB1.out⟩
set_option maxHeartbeats 1000000 in
theorem rests1 (a b : Int) (w : World) (h0 : b.tmod 1000 ≠ 0) : Calls Tryd.prog 8 #[.int .i64 a, .int .i64 b] w fun e w' => e = .returned (.bool true) ∧ Below w.heap.size w w' := by
  have hxb := tmod_bd a 1000000 (by decide)
  have hyb := tmod_bd b 1000 (by decide)
  obtain ⟨x, hx⟩ : ∃ x, a.tmod 1000000 = x := ⟨_, rfl⟩
  obtain ⟨y, hy⟩ : ∃ y, b.tmod 1000 = y := ⟨_, rfl⟩
  rw [hx] at hxb
  rw [hy] at hyb h0
  replace hxb : x.natAbs < 1000000 := hxb
  replace hyb : y.natAbs < 1000 := hyb
  obtain ⟨z, hz⟩ : ∃ z, x.tmod y = z := ⟨_, rfl⟩
  have hzb : z.natAbs < 1000 := by rw [← hz, tmod_abs]; exact Nat.lt_of_lt_of_le (Nat.mod_lt _ (by omega)) (by omega)
  have hP : PP ≤ 2045 := by rw [hPP]; omega
  have h3 : P3 ≤ 2045 := by have := hP3; omega
  have e1 := rest_eq PP x y hP (by omega) (by omega) h0
  have e2 := rest_eq P3 x y h3 (by omega) (by omega) h0
  have o1 := md_ok PP x y hP (by omega) (by omega) h0
  have hq1 := fun W => run_float_arith (P := Tryd.prog) W .quo 23 .f64 _ _ _ (eighth x (by omega))
  have hq2 := fun W => run_float_arith (P := Tryd.prog) W .quo 23 .f64 _ _ _ (eighth y (by omega))
  have hq3 := fun W => run_float_arith (P := Tryd.prog) W .quo 23 .f64 _ _ _ (eighth z (by omega))
  have c1 := fun W => conv_if x W
  have c2 := fun W => conv_if y W
  have c3 := fun W => conv_if z W
  rw [foi_G x (by omega)] at c1
  rw [foi_G y (by omega)] at c2
  rw [foi_G z (by omega)] at c3
  have HM := Lib.hid (fun W => fMod_any (G PP x) (G PP y) W (G_ok PP x hP (by omega)).1.1 (G_ok PP y hP (by omega)).1.1)
  have HN := Lib.hid (fun W => fMod_any (G P3 x) (G P3 y) W (G_ok P3 x h3 (by omega)).1.1 (G_ok P3 y h3 (by omega)).1.1)
  have HS := Lib.hid (fun W => Signbit_any (md (G PP x) (G PP y)) W o1.2.2.2)
  rw [o1.2.2.1] at HS
  rw [hz] at e1 e2
  replace e1 := eqR e1
  replace e2 := eqR e2
  unfold eight at hq1 hq2 hq3
  clear o1 hP h3
  generalize md (G PP x) (G PP y) = R at *
  generalize md (G P3 x) (G P3 y) = R3 at *
  generalize G PP x = X at *
  generalize G PP y = Y at *
  generalize G PP z = Z at *
  generalize G P3 x = X3 at *
  generalize G P3 y = Y3 at *
  generalize G P3 z = Z3 at *
  have hy0 : (y == 0) = false := beq_eq_false_iff_ne.2 h0
  have hb1 : -1000000 < x ∧ x < 1000000 := by omega
  have hb2 : -1000 < y ∧ y < 1000 := by omega
  have hwz : IntKind.i64.wrap z = z := by rw [IntKind.wrap_i64]; omega
  obtain ⟨hb3, hb4⟩ := hb1
  obtain ⟨hb5, hb6⟩ := hb2
  clear hxb hyb hzb
  cases hsx : decide (x < 0)
  · rw [hsx] at HS
    have hge : decide (0 ≤ x) = true := decide_eq_true (by have := of_decide_eq_false hsx; omega)
    clear hsx
    go_enter Tryd.func8, Tryd.ntmps8
    go_wp2_with fail
    (with_reducible refine (awake_any _).mono ?_); rintro e w1 ⟨rfl, hb1⟩
    have HB1 := Lib.hid hb1
    clear hb1
    go_wp2_with (go_at_call 12; refine (HM.out _).mono ?_; rintro e w1 ⟨rfl, rfl⟩)
    go_quiet ((first | (go_at_call 12; with_reducible exact still (HN.out _))))
    go_wp2
    go_ret
    exact ⟨rfl, below_drewN HB1.out _⟩
  · rw [hsx] at HS
    have hge : decide (0 ≤ x) = false := decide_eq_false (by have := of_decide_eq_true hsx; omega)
    clear hsx
    cases hzz : eqB R 0
    all_goals
      replace hzz := neR hzz
      go_enter Tryd.func8, Tryd.ntmps8
      go_wp2_with fail
      (with_reducible refine (awake_any _).mono ?_); rintro e w1 ⟨rfl, hb1⟩
      have HB1 := Lib.hid hb1
      clear hb1
      go_wp2_with (go_at_call 12; refine (HM.out _).mono ?_; rintro e w1 ⟨rfl, rfl⟩)
      go_quiet ((first | (go_at_call 12; with_reducible exact still (HN.out _)) | (go_at_call 28; with_reducible exact still (HS.out _))))
      go_wp2
      go_ret
      exact ⟨rfl, below_drewN HB1.out _⟩
theorem rests (a b : Int) (w : World) : Calls Tryd.prog 8 #[.int .i64 a, .int .i64 b] w fun e w' => e = .returned (.bool true) ∧ Below w.heap.size w w' := by
  by_cases h : b.tmod 1000 = 0
  · exact rests0 a b w h
  · exact rests1 a b w h
end Go.Proofs.YtlfpdahofpacpaaDoor.flt
