/-
  Proved: FltBack as a contract. Conditions: as each theorem says.
-/
import Derived.Test.YtlfpdahofpacpaaDoorFlt12
import Derived.Test.YtlfpdahofpacpaaDoorFltBack
namespace Go.Proofs.YtlfpdahofpacpaaDoor.flt
open Go.RowKit Ieee
set_option linter.unusedVariables false
set_option maxRecDepth 100000

theorem nanF_same (a : Nat) : sameB (nanF a) a = true := by
  unfold nanF sameB
  cases h : nanB a
  · simp
  · have : nanB NANB = true := by decide +kernel
    simp [this]
theorem nanF_lt (a : Nat) (h : a < 18446744073709551616) : nanF a < 18446744073709551616 := by
  unfold nanF
  split
  · exact nanb_lt
  · exact h
theorem txt_list (a : Nat) : (⟨(txt a).data.toList.toArray⟩ : ByteArray) = txt a := by
  cases h : txt a with
  | mk d => simp
theorem OfText_txt (a : Nat) (w : World) (h : a < 18446744073709551616) : Calls Tryd.prog 15 #[.string (txt a)] w fun e w' => e = .returned (.tuple #[fv (nanF a), .int .i64 0]) ∧ Below w.heap.size w w' := by
  have hs := txt_size a
  have := OfText_any (txt a).data.toList w (by
    have : (txt a).data.toList.length = (txt a).size := by rw [Array.length_toList]; rfl
    omega)
  rw [txt_list] at this
  refine this.mono fun e w' h2 => ⟨h2.1.trans ?_, h2.2⟩
  unfold ofE
  rw [ofT_txt a h]
theorem txt_eq (a b : Nat) (ha : a < 18446744073709551616) (hb : b < 18446744073709551616) : ((txt a).toList == (txt b).toList) = sameB a b := by
  rw [Bool.eq_iff_iff, beq_iff_eq, ← txt_same a b ha hb]
  rw [Lib.toList_data, Lib.toList_data]
  constructor
  · intro h
    apply ByteArray.ext
    exact Array.toList_inj.1 h
  · intro h; rw [h]
attribute [local go_sem] run_bits run_frombits
set_option maxHeartbeats 1000000 in
theorem back (a b : Nat) (w : World) (ha : a < 18446744073709551616) (hb : b < 18446744073709551616) : Calls Tryd.prog 5 #[.int .u64 a, .int .u64 b] w fun e w' => e = .returned (.bool true) ∧ Below w.heap.size w w' := by
  have HA := Lib.hid (fun W => Text_any a W ha)
  have HB := Lib.hid (fun W => Text_any b W hb)
  have HO := Lib.hid (fun W => OfText_txt a W ha)
  have HS : Hid (∀ W, Calls Tryd.prog 11 #[fv (nanF a), fv a] W fun e w' => e = .returned (.bool true) ∧ W = w') :=
    fun W => (same_any _ _ W).mono fun e w' h => ⟨h.1.trans (by rw [nanF_same]), h.2⟩
  have HT := Lib.hid (fun W => same_any a b W)
  have he := txt_eq a b ha hb
  have hz1 := txt_size a
  have hz2 := txt_size b
  clear ha hb
  generalize txt a = A at *
  generalize txt b = B at *
  generalize nanF a = c at *
  generalize sameB a b = s at *
  have HE := Lib.hid he
  clear he
  cases s
  all_goals
    have he := HE.out
    clear HE
    go_enter Tryd.func5, Tryd.ntmps5
    go_wp2_with fail
    (with_reducible refine (awake_any _).mono ?_); rintro e w1 ⟨rfl, hb1⟩
    have HB1 := Lib.hid hb1
    clear hb1
    go_wp2_with fail
    (with_reducible refine (HA.out _).mono ?_); rintro e w2 ⟨rfl, hb2⟩
    have HB2 := Lib.hid (HB1.out.trans (hb2.mono HB1.out.size))
    clear hb2
    go_wp2_with fail
    (with_reducible refine (HO.out _).mono ?_); rintro e w3 ⟨rfl, hb3⟩
    have HB3 := Lib.hid (HB2.out.trans (hb3.mono HB2.out.size))
    clear hb3
    go_wp2_with (first | (go_at_call 19; refine (Num_any _ _).mono ?_; rintro e w' ⟨rfl, rfl⟩) | (go_at_call 11; (with_reducible refine (HS.out _).mono ?_); rintro e w' ⟨rfl, rfl⟩))
    (with_reducible refine (HA.out _).mono ?_); rintro e w4 ⟨rfl, hb4⟩
    have HB4 := Lib.hid (HB3.out.trans (hb4.mono HB3.out.size))
    clear hb4
    go_wp2_with fail
    (with_reducible refine (HB.out _).mono ?_); rintro e w5 ⟨rfl, hb5⟩
    have HB5 := Lib.hid (HB4.out.trans (hb5.mono HB4.out.size))
    clear hb5
    go_wp2_with (go_at_call 11; (with_reducible refine (HT.out _).mono ?_); rintro e w' ⟨rfl, rfl⟩)
    go_ret
    exact ⟨rfl, HB5.out⟩
end Go.Proofs.YtlfpdahofpacpaaDoor.flt
