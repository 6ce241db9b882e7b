/-
  Proved: that a number's text reads as the number (plain). Conditions: as each theorem says. No program is in sight.
-/
import Derived.Test.YtjanpaallealgaaGreatDoorFlt10
namespace Go.Proofs.YtjanpaallealgaaGreatDoor.flt
open Go.RowKit Ieee
open num (ofDecV ofDecF ofDecBad decL decS decF_len ofDecV_dec)
set_option linter.unusedVariables false
set_option maxRecDepth 100000

theorem ofDecF_all : ∀ (l : List UInt8) (x y : Nat), ofDecF l x = some y → l.all isD = true ∧ l.foldl (fun x c => x * 10 + (c.toNat - 48)) x = y
  | [], x, y, h => by simp [ofDecF] at h; exact ⟨rfl, h⟩
  | c :: l, x, y, h => by
    rw [ofDecF] at h
    split at h
    · cases h
    · rename_i hc
      have := ofDecF_all l _ y h
      refine ⟨?_, ?_⟩
      · rw [List.all_cons, this.1, Bool.and_true]
        unfold isD
        rw [Bool.and_eq_true, decide_eq_true_iff, decide_eq_true_iff]
        omega
      · rw [List.foldl_cons, Nat.mul_comm x 10]; exact this.2
theorem ofDecV_all {l : List UInt8} {y : Nat} (h : ofDecV l = some y) : l.all isD = true ∧ numL l = y ∧ 1 ≤ l.length ∧ l.length ≤ 20 := by
  unfold ofDecV at h
  split at h
  · cases h
  · rename_i hb
    have hb' : ofDecBad l = false := by simpa using hb
    have h2 := ofDecF_all l 0 y h
    refine ⟨h2.1, h2.2, ?_⟩
    unfold ofDecBad at hb'
    simp only [Bool.or_eq_false_iff, decide_eq_false_iff_not] at hb'
    omega
theorem decL_all (x : Nat) (hx : x < 18446744073709551616) : (decL x).all isD = true ∧ numL (decL x) = x ∧ 1 ≤ (decL x).length := by
  have := ofDecV_all (ofDecV_dec x hx)
  exact ⟨this.1, this.2.1, this.2.2.1⟩
theorem all_not {l : List UInt8} (h : l.all isD = true) (c : UInt8) (hc : isD c = false) : c ∉ l := by
  intro hm
  have := List.all_eq_true.1 h c hm
  rw [hc] at this; cases this
theorem cutL_none {c : UInt8} {l : List UInt8} (h : c ∉ l) : cutL c l = (l, [], false) := by
  rcases cutL_cases c l with ⟨_, h2⟩ | ⟨a, b, _, h2, _⟩
  · exact h2
  · exfalso; apply h; rw [h2]; simp
theorem cutL_some {c : UInt8} {a b : List UInt8} (h : c ∉ a) : cutL c (a ++ c :: b) = (a, b, true) := by
  induction a with
  | nil => simp [cutL]
  | cons x r ih =>
    rw [List.mem_cons, not_or] at h
    rw [List.cons_append, cutL, if_neg (fun e => h.1 e.symm), ih h.2]
theorem quo_one (a : Nat) (ha : a < INF) : fop .quo a one = some a := by
  have hq : PP = 52 + pl one := by rw [hPP, one_ok.2.2]
  have h := quo_exact a one a (pfin a ha).1 one_ok.1 one_ok.2.1 ha (by
    rw [(pfin a ha).2.1, hq])
  rw [h, (pfin a ha).2.2]; rfl
theorem fl_one : fl 1 = one := by decide +kernel
theorem fl_whole (a : Nat) (ha : a < INF) (hw : isW a = true) : fl (tr a) = a := by
  have h64 : a < 18446744073709551616 := by unfold INF at ha; omega
  obtain ⟨h1, h2⟩ := Bool.and_eq_true_iff.1 (show (inW a && eqB a (trunc a)) = true from hw)
  have hf := (pfin a ha).1
  obtain ⟨f1, f2⟩ := fin_trunc a h64 h1
  rw [eqB_fin a _ hf f1, decide_eq_true_iff, f2, pval a ha, (pfin a ha).2.2] at h2
  have h3 : mg a = tr a * 2 ^ PP := by
    have : (mg a : Int) = ((tr a * 2 ^ PP : Nat) : Int) := h2
    exact Int.ofNat.inj this
  unfold fl
  rw [near_int, ← h3, nr_mg a ha]; rfl
theorem strip_mul (f m : Nat) : m = (strip f m).1 * 2 ^ (strip f m).2 := by
  induction f generalizing m with
  | zero => simp [strip]
  | succ f ih =>
    unfold strip
    split
    · have := ih (m / 2)
      show m = (strip f (m / 2)).1 * 2 ^ ((strip f (m / 2)).2 + 1)
      rw [Nat.pow_succ, ← Nat.mul_assoc, ← this]
      omega
    · simp
theorem mg_fl (n : Nat) (h : n ≤ 9007199254740992) : mg (fl n) = n * 2 ^ PP := by
  have e : fl n = nr (n * 2 ^ PP) := by unfold fl; rw [near_int, wd_false]
  rw [e]
  exact (rep_int n h).2
theorem ldz_parts (a : Nat) (h0 : 0 < a) (ha : a < INF) : ldz (fl (strip 64 (sg a)).1) ((pl a : Int) - 1074 + (strip 64 (sg a)).2) = a := by
  have hb := txtM_bd a ha
  have hs := strip_mul 64 (sg a)
  have hm := mg_def a
  have hp := mg_pos a h0
  generalize (strip 64 (sg a)).1 = m at *
  generalize (strip 64 (sg a)).2 = k at *
  have hm0 : 0 < m := by
    rcases Nat.eq_zero_or_pos m with h | h
    · rw [h, Nat.zero_mul] at hs; rw [hs, Nat.zero_mul] at hm; omega
    · exact h
  have hfl := fl_pos m hm0 (by omega)
  unfold ldz
  rw [if_neg (by omega)]
  refine ldx_ok _ _ _ hfl.2 hfl.1 ha ?_
  unfold Scaled
  rw [mg_fl m (by omega), ← hm, hs]
  have hq := hPP
  generalize PP = q at *
  generalize pl a = p
  rw [Nat.mul_assoc, Nat.mul_assoc, Nat.mul_assoc, ← Nat.pow_add, ← Nat.pow_add, ← Nat.pow_add]
  congr 2
  omega
theorem whole_tr (a : Nat) (ha : a < INF) (hw : isW a = true) : wholeN a = (tr a : Int) ∧ tr a ≤ 9007199254740992 := by
  have h64 : a < 18446744073709551616 := by unfold INF at ha; omega
  obtain ⟨h1, h2⟩ := Bool.and_eq_true_iff.1 (show (inW a && eqB a (trunc a)) = true from hw)
  refine ⟨?_, tr_le a h64 h1⟩
  unfold wholeN trI
  rw [hw, (pfin a ha).2.2]
  simp
/-- Of digits alone. -/
theorem bodyV_digits (n : Nat) (h : n ≤ 9007199254740992) : ∃ is, bodyV (decL n) = some (fl n, is) := by
  obtain ⟨h1, h2, h3⟩ := decL_all n (by omega)
  have hc : cutL 46 (decL n) = (decL n, [], false) := cutL_none (all_not h1 46 (by decide))
  by_cases hl : (decL n).length ≤ 15
  · refine ⟨true, ?_⟩
    have hd : decOkL (decL n) = true := by
      unfold decOkL
      rw [hc]
      unfold decOk digB
      rw [h1]
      have : (decL n).isEmpty = false := by cases hx : decL n with
        | nil => rw [hx] at h3; simp at h3
        | cons _ _ => rfl
      rw [this]
      simp; omega
    have hv : decVL (decL n) = fl n := by
      unfold decVL decV
      rw [show decOk (cutL 46 (decL n)).1 (cutL 46 (decL n)).2.1 (cutL 46 (decL n)).2.2 = true from hd, if_pos rfl, hc]
      unfold decQ
      rw [List.append_nil, h2]
      show (fop .quo (fl n) (fl 1)).getD 0 = _
      rw [fl_one, quo_one _ (fl_lt n h)]; rfl
    unfold bodyV
    rw [hd, if_pos rfl, hv]
  · refine ⟨false, ?_⟩
    have hd : decOkL (decL n) = false := by
      unfold decOkL
      rw [hc]
      unfold decOk
      have : decide ((decL n).length + ([] : List UInt8).length ≤ 15) = false := decide_eq_false (by simp; omega)
      rw [this, Bool.and_false]
    have hn : decL n ≠ nanL := by intro e; rw [e] at h1; revert h1; decide
    have hi : decL n ≠ infL := by intro e; rw [e] at h1; revert h1; decide
    unfold bodyV
    rw [hd, if_neg Bool.false_ne_true, if_neg hn, if_neg hi, ofDecV_dec n (by omega)]
    simp only [h, if_true]
def szL (x : Int) : List UInt8 := if x < 0 then 45 :: decL x.natAbs else decL x.natAbs
theorem szS_list (x : Int) : (szS x).data.toList = szL x := by
  unfold szS szL
  split
  · rw [ByteArray.data_append, Array.toList_append]; rfl
  · rfl
theorem bodyV_parts (m : Nat) (e : Int) (hm : m ≤ 9007199254740992) (he1 : -2000 ≤ e) (he2 : e ≤ 2000) : bodyV (decL m ++ 112 :: szL e) = some (ldz (fl m) e, true) := by
  obtain ⟨h1, h2, h3⟩ := decL_all m (by omega)
  obtain ⟨k1, k2, k3⟩ := decL_all e.natAbs (by omega)
  have hp : (112 : UInt8) ∈ decL m ++ 112 :: szL e := by simp
  have hna : ¬ (decL m ++ 112 :: szL e).all isD = true := fun h => all_not h 112 (by decide) hp
  have h46 : (46 : UInt8) ∉ decL m ++ 112 :: szL e := by
    rw [List.mem_append, List.mem_cons]
    have a1 := all_not h1 46 (by decide)
    have a2 : (46 : UInt8) ∉ szL e := by
      unfold szL
      split
      · rw [List.mem_cons, not_or]; exact ⟨by decide, all_not k1 46 (by decide)⟩
      · exact all_not k1 46 (by decide)
    intro h
    rcases h with h | h | h
    · exact a1 h
    · revert h; decide
    · exact a2 h
  have hd : decOkL (decL m ++ 112 :: szL e) = false := by
    unfold decOkL
    rw [cutL_none h46]
    unfold decOk digB
    have : (decL m ++ 112 :: szL e).all isD = false := by simpa using hna
    rw [this, Bool.and_false]; rfl
  have hn : decL m ++ 112 :: szL e ≠ nanL := by intro h; rw [h] at hp; revert hp; decide
  have hi : decL m ++ 112 :: szL e ≠ infL := by intro h; rw [h] at hp; revert hp; decide
  have ho : ofDecV (decL m ++ 112 :: szL e) = none := by
    cases h : ofDecV (decL m ++ 112 :: szL e) with
    | none => rfl
    | some y => exact absurd (ofDecV_all h).1 hna
  have hcut : cutL 112 (decL m ++ 112 :: szL e) = (decL m, szL e, true) := cutL_some (all_not h1 112 (by decide))
  have hpow : powR (decL m) (szL e) true = some (ldz (fl m) e) := by
    unfold powR
    rw [if_pos rfl, ofDecV_dec m (by omega)]
    have hhead : ∀ l : List UInt8, l.all isD = true → Lib.hasPrefix l [45] = false := by
      intro l hl
      cases l with
      | nil => rfl
      | cons c r =>
        have : c ≠ 45 := by intro h; subst h; revert hl; rw [List.all_cons]; simp [show isD 45 = false by decide]
        unfold Lib.hasPrefix
        simp [List.isPrefixOf]
        exact fun h => this h.symm
    by_cases hneg : e < 0
    · have e1 : szL e = 45 :: decL e.natAbs := by unfold szL; rw [if_pos hneg]
      have e2 : Lib.hasPrefix (szL e) [45] = true := by rw [e1]; simp [Lib.hasPrefix, List.isPrefixOf]
      have e3 : Lib.trimPrefix (szL e) [45] = decL e.natAbs := by unfold Lib.trimPrefix; rw [e2, e1]; simp
      rw [e3, e2, ofDecV_dec _ (by omega)]
      have : (m ≤ 9007199254740992 ∧ e.natAbs ≤ 2000) := by omega
      simp only [this, and_self, if_true]
      congr 2; omega
    · have e1 : szL e = decL e.natAbs := by unfold szL; rw [if_neg hneg]
      have e2 : Lib.hasPrefix (szL e) [45] = false := by rw [e1]; exact hhead _ k1
      have e3 : Lib.trimPrefix (szL e) [45] = decL e.natAbs := by unfold Lib.trimPrefix; rw [e2, e1]; simp
      rw [e3, e2, ofDecV_dec _ (by omega)]
      have : (m ≤ 9007199254740992 ∧ e.natAbs ≤ 2000) := by omega
      simp only [this, and_self, if_true, Bool.false_eq_true, if_false]
      congr 2; omega
  have hpo : powOkL (decL m ++ 112 :: szL e) = true := by unfold powOkL powOk; rw [hcut]; simp only; rw [hpow]; rfl
  have hpv : powVL (decL m ++ 112 :: szL e) = ldz (fl m) e := by unfold powVL powV; rw [hcut]; simp only; rw [hpow]; rfl
  unfold bodyV
  rw [hd, if_neg Bool.false_ne_true, if_neg hn, if_neg hi, ho, hpo, hpv]
  rfl
theorem bodyV_txtP (a : Nat) (ha : a ≤ INF) : ∃ is, bodyV (txtP a).data.toList = some (a, is) := by
  have hI : INF = 9218868437227405312 := rfl
  by_cases hi : INF ≤ a
  · have : a = INF := by omega
    subst this
    refine ⟨false, ?_⟩
    decide +kernel
  · cases hw : isW a
    · have e : (txtP a).data.toList = decL (strip 64 (sg a)).1 ++ 112 :: szL ((pl a : Int) - 1074 + (strip 64 (sg a)).2) := by
        unfold txtP
        rw [if_neg hi, hw]
        simp only [Bool.false_eq_true, if_false]
        unfold txtM
        rw [ByteArray.data_append, ByteArray.data_append, Array.toList_append, Array.toList_append, szS_list]
        simp [decS]
      have h0 : 0 < a := by
        rcases Nat.eq_zero_or_pos a with rfl | h0
        · rw [whole_zero] at hw; cases hw
        · exact h0
      have hb := txtM_bd a (by omega)
      have hk := (strip_le 64 (sg a)).2
      have hp := pl_le a (by omega)
      rw [e, bodyV_parts _ _ (by omega) (by omega) (by omega), ldz_parts a h0 (by omega)]
      exact ⟨true, rfl⟩
    · obtain ⟨h1, h2⟩ := whole_tr a (by omega) hw
      have e : (txtP a).data.toList = decL (tr a) := by
        unfold txtP
        rw [if_neg hi, hw, if_pos rfl, szS_list, h1]
        unfold szL
        rw [if_neg (by omega)]
        rfl
      obtain ⟨is, h3⟩ := bodyV_digits (tr a) h2
      rw [e, h3, fl_whole a (by omega) hw]
      exact ⟨is, rfl⟩
theorem txtP_head (a : Nat) : Lib.hasPrefix (txtP a).data.toList [45] = false := by
  have hd : ∀ n r, Lib.hasPrefix (decL n ++ r) [45] = false := by
    intro n r
    have h : ∀ f x r, Lib.hasPrefix (num.decF f x ++ r) [45] = false := by
      intro f
      have h1 : ∀ x r, Lib.hasPrefix (num.digit x :: r) [45] = false := by
        intro x r
        have := num.digit_nat x
        have hne : num.digit x ≠ 45 := by intro h; rw [h] at this; have e : (45 : UInt8).toNat = 45 := rfl; omega
        unfold Lib.hasPrefix
        simp [List.isPrefixOf]
        exact fun h => hne h.symm
      induction f with
      | zero => intro x r; exact h1 x r
      | succ f ih =>
        intro x r
        rw [num.decF]
        split
        · exact h1 x r
        · rw [List.append_assoc]; exact ih _ _
    exact h 19 n r
  unfold txtP
  split
  · decide
  · split
    · rename_i hi hw
      rw [szS_list]
      have hI : INF = 9218868437227405312 := rfl
      have : a < INF := by omega
      rw [(whole_tr a this hw).1]
      unfold szL
      rw [if_neg (by omega)]
      have := hd (tr a) []
      rw [List.append_nil] at this
      exact this
    · unfold txtM
      rw [ByteArray.data_append, ByteArray.data_append, Array.toList_append, Array.toList_append, List.append_assoc]
      exact hd _ _
def nanF (a : Nat) : Nat := if nanB a then NANB else a
theorem ofT_txt (a : Nat) (h : a < 18446744073709551616) : ofT (txt a).data.toList = some (nanF a) := by
  unfold nanF
  cases hn : nanB a
  · rw [if_neg Bool.false_ne_true]
    have hr : rung a ≤ INF := by
      rcases fin_cases a h with hf | ⟨h1, _⟩ | ⟨_, h2⟩
      · have := hf.2; unfold INF; omega
      · unfold INF; omega
      · rw [hn] at h2; cases h2
    obtain ⟨is, hb⟩ := bodyV_txtP (rung a) hr
    have hh := txtP_head (rung a)
    have key : bodyL (txt a).data.toList = (txtP (rung a)).data.toList ∧ signV (txt a).data.toList (rung a) = a := by
      cases hs : sgn a
      · have hlt : a < 9223372036854775808 := by unfold sgn at hs; have := of_decide_eq_false hs; omega
        have hru : rung a = a := by unfold rung; omega
        have e : txt a = txtP (rung a) := by unfold txt; rw [hn, hs, hru]; rfl
        rw [e]
        have hb : bodyL (txtP (rung a)).data.toList = (txtP (rung a)).data.toList := by unfold bodyL Lib.trimPrefix; rw [hh]; rfl
        refine ⟨hb, ?_⟩
        unfold signV
        rw [hb, if_neg (by omega), hru]
      · have h1 : 9223372036854775808 ≤ a := of_decide_eq_true hs
        have h2 : ng a = rung a := by unfold ng rung; rw [if_neg (by omega)]; omega
        have e : (txt a).data.toList = 45 :: (txtP (rung a)).data.toList := by
          unfold txt; rw [hn, hs, h2]
          simp only [Bool.false_eq_true, if_false, if_true]
          rw [ByteArray.data_append, Array.toList_append]; rfl
        rw [e]
        have hb : bodyL (45 :: (txtP (rung a)).data.toList) = (txtP (rung a)).data.toList := by unfold bodyL Lib.trimPrefix; simp [Lib.hasPrefix, List.isPrefixOf]
        refine ⟨hb, ?_⟩
        unfold signV
        rw [hb, if_pos (by simp)]
        unfold ng rung
        rw [if_pos (by omega)]
        omega
    unfold ofT
    rw [key.1, hb]
    simp only
    rw [key.2]
    simp
  · have e : txt a = ⟨#[110, 97, 110]⟩ := by unfold txt; rw [hn]; rfl
    rw [e, if_pos rfl]
    decide +kernel
theorem txt_same (a b : Nat) (ha : a < 18446744073709551616) (hb : b < 18446744073709551616) : (txt a = txt b) ↔ sameB a b = true := by
  constructor
  · intro h
    have h1 := ofT_txt a ha
    have h2 := ofT_txt b hb
    rw [h, h2] at h1
    have h3 : nanF b = nanF a := Option.some.inj h1
    unfold nanF at h3
    unfold sameB
    cases hA : nanB a <;> cases hB : nanB b <;> rw [hA, hB] at h3 <;> simp at h3
    · simp [h3]
    · exfalso; rw [← h3] at hA; revert hA; decide +kernel
    · exfalso; rw [h3] at hB; revert hB; decide +kernel
    · rfl
  · intro h
    unfold sameB at h
    rw [Bool.or_eq_true, Bool.and_eq_true, beq_iff_eq] at h
    rcases h with ⟨h1, h2⟩ | rfl
    · unfold txt; rw [h1, h2]; rfl
    · rfl
end Go.Proofs.YtjanpaallealgaaGreatDoor.flt
