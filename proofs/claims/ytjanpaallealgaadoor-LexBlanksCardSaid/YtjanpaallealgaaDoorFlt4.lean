/-
  Proved: what sized and Text return. Conditions: as each theorem says.
-/
import Derived.Test.YtjanpaallealgaaDoorFlt3
import Derived.Deep.RegionWith
namespace Go.Proofs.YtjanpaallealgaaDoor.flt
open Go.RowKit Ieee
open num (U64 decS decL decF_len Dec_any ret_str ret_pair bcell)
set_option linter.unusedVariables false
set_option maxRecDepth 100000

theorem decS_size (x : Nat) : (decS x).size ≤ 20 := by
  have := (decF_len 19 x).2
  show (num.decF 19 x).toArray.size ≤ 20
  rw [List.size_toArray]; exact this
/-- The text of a whole number with its sign. -/
def szS (x : Int) : ByteArray := if x < 0 then (⟨#[45]⟩ : ByteArray) ++ decS x.natAbs else decS x.natAbs
theorem szS_pos (x : Int) (h : 0 ≤ x) : szS x = decS x.natAbs := by unfold szS; rw [if_neg (by omega)]
theorem szS_neg (x : Int) (h : x < 0) : szS x = (⟨#[45]⟩ : ByteArray) ++ decS x.natAbs := by unfold szS; rw [if_pos h]
theorem szS_size (x : Int) : (szS x).size ≤ 21 := by
  have := decS_size x.natAbs
  unfold szS
  split
  · rw [ByteArray.size_append]; show 1 + _ ≤ 21; omega
  · omega
theorem sized_any (x : Int) (w : World) (h1 : -9007199254740992 ≤ x) (h2 : x ≤ 9007199254740992) : Calls Tryd.prog 45 #[.int .i64 x] w fun e w' => e = .returned (.string (szS x)) ∧ Below w.heap.size w w' := by
  have hs := decS_size x.natAbs
  by_cases hx : x < 0
  · have HZ := Lib.hid (szS_neg x hx)
    have hd : decide (x < 0) = true := by simpa using hx
    have hw : IntKind.u64.wrap (-x) = (x.natAbs : Int) := by rw [IntKind.wrap_u64]; omega
    have HD := Lib.hid (fun W => Dec_any x.natAbs W (show x.natAbs < 18446744073709551616 by omega))
    generalize x.natAbs = n at *
    generalize decS n = D at *
    go_enter Tryd.func45, Tryd.ntmps45
    go_wp2_with (go_at_call 47; refine (HD.out _).mono ?_; rintro e w1 ⟨rfl, hb⟩)
    go_ret
    exact ⟨ret_str HZ.out.symm, hb⟩
  · have HZ := Lib.hid (szS_pos x (by omega))
    have hd : decide (x < 0) = false := by simpa using hx
    have hw : IntKind.u64.wrap x = (x.natAbs : Int) := by rw [IntKind.wrap_u64]; omega
    have HD := Lib.hid (fun W => Dec_any x.natAbs W (show x.natAbs < 18446744073709551616 by omega))
    generalize x.natAbs = n at *
    generalize decS n = D at *
    go_enter Tryd.func45, Tryd.ntmps45
    go_wp2_with (go_at_call 47; refine (HD.out _).mono ?_; rintro e w1 ⟨rfl, hb⟩)
    go_ret
    exact ⟨ret_str HZ.out.symm, hb⟩
/-- The text of a number that is not below zero. -/
def txtM (a : Nat) : ByteArray := decS (strip 64 (sg a)).1 ++ ⟨#[112]⟩ ++ szS ((pl a : Int) - 1074 + (strip 64 (sg a)).2)
def txtP (a : Nat) : ByteArray := if 9218868437227405312 ≤ a then ⟨#[105, 110, 102]⟩ else if isW a then szS (wholeN a) else txtM a
def txt (a : Nat) : ByteArray := if nanB a then ⟨#[110, 97, 110]⟩ else if sgn a then (⟨#[45]⟩ : ByteArray) ++ txtP (ng a) else txtP a
theorem txtM_size (a : Nat) : (txtM a).size ≤ 42 := by
  have h1 := decS_size (strip 64 (sg a)).1
  have h2 := szS_size ((pl a : Int) - 1074 + (strip 64 (sg a)).2)
  unfold txtM
  rw [ByteArray.size_append, ByteArray.size_append]
  show _ + 1 + _ ≤ 42
  omega
theorem txtP_size (a : Nat) : (txtP a).size ≤ 42 := by
  have h1 := txtM_size a
  have h2 := szS_size (wholeN a)
  unfold txtP
  split
  · show 3 ≤ 42; omega
  · split <;> omega
theorem txt_size (a : Nat) : (txt a).size ≤ 43 := by
  have h1 := txtP_size a
  have h2 := txtP_size (ng a)
  unfold txt
  split
  · show 3 ≤ 43; omega
  · split
    · rw [ByteArray.size_append]; show 1 + _ ≤ 43; omega
    · omega
theorem fin_pos (a : Nat) (h : a < 9218868437227405312) : fin a ∧ rung a = a ∧ sgn a = false := by
  unfold fin rung sgn
  refine ⟨by omega, by omega, decide_eq_false (by omega)⟩
theorem fin_nan (a : Nat) (h : fin a) : nanB a = false := by unfold nanB; rw [read_fin a h]; rfl
theorem nan_pos (a : Nat) (h : a < 9223372036854775808) (hn : nanB a = false) : a ≤ 9218868437227405312 := by
  rcases fin_cases a (by omega) with hf | ⟨h1, h2⟩ | ⟨h1, h2⟩
  · have := hf.2; unfold rung at this; omega
  · unfold rung at h1; omega
  · rw [h2] at hn; cases hn
theorem inf_nan : nanB 9218868437227405312 = false := by decide
theorem gt_max (a : Nat) (h : a ≤ 9218868437227405312) : (double.order a 9218868437227405311 == some .gt) = decide (9218868437227405312 ≤ a) := by
  by_cases he : a = 9218868437227405312
  · subst he; decide +kernel
  · have h1 := fin_pos a (by omega)
    have h2 := fin_pos 9218868437227405311 (by omega)
    rw [order_fin _ _ h1.1 h2.1]
    have hv : val a ≤ val 9218868437227405311 := by
      unfold val
      rw [h1.2.1, h1.2.2, h2.2.1, h2.2.2]
      simp only [Bool.false_eq_true, if_false]
      have := mg_lt_iff 9218868437227405311 a
      omega
    rw [Bool.eq_iff_iff, decide_eq_true_iff]
    constructor
    · intro hh
      have : compare (val a) (val 9218868437227405311) = .gt := by simpa using hh
      have h3 := (cmp_le (val a) (val 9218868437227405311)).2 hv
      rw [this] at h3
      simp at h3
    · intro hh; omega
theorem whole_zero : isW 0 = true := by decide +kernel
theorem wholeN_bd (a : Nat) (h : a < 18446744073709551616) : -9007199254740992 ≤ wholeN a ∧ wholeN a ≤ 9007199254740992 := by
  unfold wholeN
  split
  · rename_i hw
    have : inW a = true := by unfold isW at hw; exact (Bool.and_eq_true_iff.1 hw).1
    have := tr_le a h this
    unfold trI
    split <;> omega
  · omega
theorem strip_le (f m : Nat) : (strip f m).1 ≤ m ∧ (strip f m).2 ≤ f := by
  induction f generalizing m with
  | zero => exact ⟨Nat.le_refl _, Nat.le_refl _⟩
  | succ f ih =>
    unfold strip
    split
    · have := ih (m / 2); exact ⟨by simp only; omega, by simp only; omega⟩
    · exact ⟨Nat.le_refl _, by simp⟩
theorem pl_le (a : Nat) (h : a < 9218868437227405312) : pl a ≤ 2045 := by unfold pl; omega
theorem txtM_bd (a : Nat) (h : a < 9218868437227405312) : (strip 64 (sg a)).1 < 9007199254740992 ∧ -9007199254740992 ≤ (pl a : Int) - 1074 + (strip 64 (sg a)).2 ∧ (pl a : Int) - 1074 + (strip 64 (sg a)).2 ≤ 9007199254740992 := by
  have h1 := strip_le 64 (sg a)
  have h2 := sg_lt a
  have h3 := pl_le a h
  omega
theorem Text_pos (a : Nat) (w : World) (h : a < 9223372036854775808) (hn : nanB a = false) : Calls Tryd.prog 30 #[fv a] w fun e w' => e = .returned (.string (txtP a)) ∧ Below w.heap.size w w' := by
  have hle := nan_pos a h hn
  have hg := gt_max a hle
  have ho : (!eqB a a) = false := by unfold eqB; rw [order_self, hn]; rfl
  have ho2 := neR (a := a) (c := a) (b := true) (by rw [Bool.not_eq_false'] at ho; exact ho)
  have hbl : decide (9223372036854775808 ≤ a) = false := decide_eq_false (by omega)
  have HB := Lib.hid (fun W => below_any a W (by omega))
  rw [hbl] at HB
  have HWh := Lib.hid (fun W => Whole_any a W (by omega))
  by_cases hi : 9218868437227405312 ≤ a
  · have HT : Hid (txtP a = ⟨#[105, 110, 102]⟩) := by unfold Hid txtP; rw [if_pos hi]
    rw [decide_eq_true hi] at hg
    replace hg := gtR hg
    clear hi hle hn h ho hbl HWh
    simp only [Bool.not_true] at ho2
    go_enter Tryd.func30, Tryd.ntmps30
    go_wp2_with (go_at_call 43; refine (HB.out _).mono ?_; rintro e w1 ⟨rfl, rfl⟩)
    go_ret
    exact ⟨ret_str HT.out.symm, Below.refl _ _⟩
  · rw [decide_eq_false hi] at hg
    replace hg := gtR hg
    simp only [Bool.not_true] at ho2
    cases hW : isW a
    · have HT : Hid (txtP a = txtM a) := by unfold Hid txtP; rw [if_neg hi, hW]; rfl
      have h0 : 0 < a := by
        rcases Nat.eq_zero_or_pos a with rfl | h0
        · rw [whole_zero] at hW; cases hW
        · exact h0
      have HPt := Lib.hid (fun W => parts_any a W (by omega) h0)
      have hbd := txtM_bd a (by omega)
      unfold txtM at HT
      rw [hW] at HWh
      generalize (strip 64 (sg a)).1 = m at *
      generalize (pl a : Int) - 1074 + (strip 64 (sg a)).2 = x at *
      have HD := Lib.hid (fun W => Dec_any m W (show m < 18446744073709551616 by omega))
      have HZ := Lib.hid (fun W => sized_any x W hbd.2.1 hbd.2.2)
      have hs1 := decS_size m
      have hs2 := szS_size x
      have hs3 : (decS m ++ (⟨#[112]⟩ : ByteArray)).size ≤ 21 := by rw [ByteArray.size_append]; show _ + 1 ≤ 21; omega
      generalize decS m = D at *
      generalize szS x = Z at *
      clear hi hle hn h ho hbl hbd hW h0
      generalize hDD : D ++ (⟨#[112]⟩ : ByteArray) = DD at *
      have HDD := Lib.hid hDD
      go_enter Tryd.func30, Tryd.ntmps30
      go_wp2_with (first | (go_at_call 43; refine (HB.out _).mono ?_; rintro e w1 ⟨rfl, rfl⟩) | (go_at_call 44; refine (HWh.out _).mono ?_; rintro e w1 ⟨rfl, rfl⟩) | (go_at_call 46; refine (HPt.out _).mono ?_; rintro e w1 ⟨rfl, rfl⟩))
      go_wp2_with (first | (go_at_call 47; refine (HD.out _).mono ?_; rintro e w1 ⟨rfl, hb1⟩) | (go_at_call 45; refine (HZ.out _).mono ?_; rintro e w2 ⟨rfl, hb2⟩))
      go_ret
      exact ⟨ret_str HT.out.symm, hb1.trans (hb2.mono hb1.size)⟩
    · have HT : Hid (txtP a = szS (wholeN a)) := by unfold Hid txtP; rw [if_neg hi, hW]; rfl
      have hbd := wholeN_bd a (by omega)
      rw [hW] at HWh
      generalize wholeN a = x at *
      have HZ := Lib.hid (fun W => sized_any x W hbd.1 hbd.2)
      clear hi hle hn h ho hbl hbd hW
      go_enter Tryd.func30, Tryd.ntmps30
      go_wp2_with (first | (go_at_call 43; refine (HB.out _).mono ?_; rintro e w1 ⟨rfl, rfl⟩) | (go_at_call 44; refine (HWh.out _).mono ?_; rintro e w1 ⟨rfl, rfl⟩) | (go_at_call 45; refine (HZ.out _).mono ?_; rintro e w1 ⟨rfl, hb⟩))
      go_ret
      exact ⟨ret_str HT.out.symm, hb⟩
theorem Text_any (a : Nat) (w : World) (h : a < 18446744073709551616) : Calls Tryd.prog 30 #[fv a] w fun e w' => e = .returned (.string (txt a)) ∧ Below w.heap.size w w' := by
  cases hn : nanB a
  · cases hs : sgn a
    · have e : txt a = txtP a := by unfold txt; rw [hn, hs]; rfl
      rw [e]
      have h1 : a < 9223372036854775808 := by unfold sgn at hs; have := of_decide_eq_false hs; omega
      exact Text_pos a w h1 hn
    · have HE : Hid (txt a = (⟨#[45]⟩ : ByteArray) ++ txtP (ng a)) := by unfold Hid txt; rw [hn, hs]; rfl
      have h1 : 9223372036854775808 ≤ a := of_decide_eq_true hs
      have h2 : ng a < 9223372036854775808 := by unfold ng; rw [if_neg (by omega)]; omega
      have h3 : nanB (ng a) = false := by
        rcases fin_cases a h with hf | ⟨h4, h5⟩ | ⟨h4, h5⟩
        · refine fin_nan _ ?_
          have := hf.2
          unfold rung at this
          exact (fin_pos _ (by unfold ng; rw [if_neg (by omega)]; omega)).1
        · have : ng a = 9218868437227405312 := by unfold rung at h4; unfold ng; rw [if_neg (by omega)]; omega
          rw [this]; exact inf_nan
        · rw [h5] at hn; cases hn
      have hneg := neg_ng a h
      have HP := Lib.hid (fun W => Text_pos (ng a) W h2 h3)
      have hsz : (txtP (ng a)).size ≤ 42 := txtP_size _
      have ho2 := neR (a := a) (c := a) (b := true) (by unfold eqB; rw [order_self, hn]; rfl)
      simp only [Bool.not_true] at ho2
      have HB := Lib.hid (fun W => below_any a W h)
      rw [decide_eq_true h1] at HB
      generalize txtP (ng a) = T at *
      generalize ng a = b at *
      clear h h1 h2 h3 hs hn
      have hrn := fun W => run_neg (P := Tryd.prog) a W
      rw [hneg] at hrn
      go_enter Tryd.func30, Tryd.ntmps30
      go_wp2_with (first | (go_at_call 43; refine (HB.out _).mono ?_; rintro e w1 ⟨rfl, rfl⟩) | (go_at_call 30; refine (HP.out _).mono ?_; rintro e w1 ⟨rfl, hb⟩))
      go_ret
      exact ⟨ret_str HE.out.symm, hb⟩
  · have HE : Hid (txt a = ⟨#[110, 97, 110]⟩) := by unfold Hid txt; rw [hn]; rfl
    have ho2 := neR (a := a) (c := a) (b := false) (by unfold eqB; rw [order_self, hn]; rfl)
    simp only [Bool.not_false] at ho2
    clear hn h
    go_enter Tryd.func30, Tryd.ntmps30
    go_wp2_with fail
    go_ret
    exact ⟨ret_str HE.out.symm, Below.refl _ _⟩
end Go.Proofs.YtjanpaallealgaaDoor.flt
