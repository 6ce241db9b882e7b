/-
  Proved: what the document's own Name, Join, Below give; that SameTexts says true of equal rows. Conditions: as each theorem says.
-/
import Derived.Test.YtifhnpkapgaboaaPathLaw
namespace Go.Proofs.Ytifhnpkapgaboaa.path
open Go.RowKit Go.Shelf
open heap
set_option linter.unusedVariables false

theorem name_eq (l : List UInt8) (h0 : l ≠ []) (b : Bool) (h : b = true ↔ ((l = [46] ∨ l = [46, 46] ∨ 16 < l.length) ∨ (47 : UInt8) ∈ l ∨ (0 : UInt8) ∈ l)) : nameE l = if b = true then 401 else 0 := by
  rw [nameE, if_neg h0]
  by_cases hb : b = true
  · rw [if_pos hb, if_pos]
    rcases h.1 hb with (h | h | h) | h | h
    · exact .inr (.inl h)
    · exact .inr (.inr (.inl h))
    · exact .inl h
    · exact .inr (.inr (.inr (.inl h)))
    · exact .inr (.inr (.inr (.inr h)))
  · rw [if_neg hb, if_neg]
    intro h'
    apply hb
    rw [h]
    rcases h' with h | h | h | h | h
    · exact .inl (.inr (.inr h))
    · exact .inl (.inl h)
    · exact .inl (.inr (.inl h))
    · exact .inr (.inl h)
    · exact .inr (.inr h)
theorem mem_take_succ (l : List UInt8) (j : Nat) (x : UInt8) (hj : j < l.length) : x ∈ l.take (j + 1) ↔ x ∈ l.take j ∨ l[j] = x := by
  rw [List.take_add_one, List.getElem?_eq_getElem hj, List.mem_append, Option.toList_some, List.mem_singleton, eq_comm (a := x)]
set_option maxRecDepth 100000 in
set_option maxHeartbeats 1000000 in
theorem rName_any (l : List UInt8) (w : World) (hs : l.length ≤ 9223372036854775806) :
    Calls Try.prog 100 #[sv l] w fun e w' => e = .returned (.int .i64 (nameE l)) ∧ w = w' := by
  have z := str_size l
  by_cases h0 : l = []
  · subst h0
    go_enter Try.func100, Try.ntmps100
    go_wp2
    go_ret
    exact ⟨rfl, rfl⟩
  · have b0 : l.isEmpty = false := by cases l <;> simp_all
    have b0' : (l == []) = false := by rw [beq_eq_false_iff_ne]; exact h0
    have HN := Lib.hid (name_eq l h0)
    obtain ⟨P, hP⟩ : ∃ P : Prop, P = (l = [46] ∨ l = [46, 46] ∨ 16 < l.length) := ⟨_, rfl⟩
    rw [← hP] at HN
    have hcs : ∃ bb : Bool, (bb = true ↔ P) ∧ (((l == [46]) = true ∧ bb = true) ∨ ((l == [46]) = false ∧ (l == [46, 46]) = true ∧ bb = true) ∨ ((l == [46]) = false ∧ (l == [46, 46]) = false ∧ decide ((16 : Int) < (l.length : Int)) = true ∧ bb = true) ∨ ((l == [46]) = false ∧ (l == [46, 46]) = false ∧ decide ((16 : Int) < (l.length : Int)) = false ∧ bb = false)) := by
      refine ⟨decide (l = [46] ∨ l = [46, 46] ∨ 16 < l.length), by rw [hP, decide_eq_true_iff], ?_⟩
      by_cases h1 : l = [46]
      · exact .inl ⟨by simp [h1], by simp [h1]⟩
      · by_cases h2 : l = [46, 46]
        · exact .inr (.inl ⟨by simp [h2], by simp [h2], by simp [h2]⟩)
        · by_cases h3 : 16 < l.length
          · exact .inr (.inr (.inl ⟨by simp [h1], by simp [h2], decide_eq_true (by omega), by simp [h3]⟩))
          · exact .inr (.inr (.inr ⟨by simp [h1], by simp [h2], decide_eq_false (by omega), by simp [h1, h2]; omega⟩))
    obtain ⟨bb, hbb, hcs⟩ := hcs
    have HB := Lib.hid hbb
    clear hP hbb h0
    rcases hcs with ⟨b1, rfl⟩ | ⟨b1, b2, rfl⟩ | ⟨b1, b2, h3, rfl⟩ | ⟨b1, b2, h3, rfl⟩
    all_goals
      go_enter Try.func100, Try.ntmps100
      go_wp2_with fail
      go_loopw [3, 4] (fun b i wr => ∃ (j : Nat) (bv : Bool), j ≤ l.length ∧ b = .bool bv ∧ i = .int .i64 j ∧ Hid (bv = true ↔ (P ∨ (47 : UInt8) ∈ l.take j ∨ (0 : UInt8) ∈ l.take j)) ∧ Hid (w = wr)) (fun _ i _ => l.length - (intOf i).toNat)
      case atStart => exact ⟨0, _, by omega, rfl, rfl, by rw [Hid]; simpa using HB.out, rfl⟩
      case round =>
        obtain ⟨j, bv, hj, rfl, rfl, HV, HW⟩ := hrel
        by_cases hlt : j < l.length
        · have hji : (j : Int) < l.length := by omega
          have hz : j < (⟨l.toArray⟩ : ByteArray).size := by rw [z]; exact hlt
          obtain ⟨x, hx⟩ : ∃ x : UInt8, (⟨l.toArray⟩ : ByteArray)[j]'hz = x := ⟨_, rfl⟩
          have HX : Hid (l[j]'hlt = x) := hx
          have HM47 := Lib.hid (mem_take_succ l j 47 hlt)
          have HM0 := Lib.hid (mem_take_succ l j 0 hlt)
          cases bv with
          | true =>
            have HV2 : Hid (true = true ↔ (P ∨ (47 : UInt8) ∈ l.take (j + 1) ∨ (0 : UInt8) ∈ l.take (j + 1))) := by
              rw [Hid, HM47.out, HM0.out]
              refine ⟨fun _ => ?_, fun _ => rfl⟩
              rcases HV.out.1 rfl with h | h | h
              · exact .inl h
              · exact .inr (.inl (.inl h))
              · exact .inr (.inr (.inl h))
            clear HM47 HM0 HV
            go_wp2_with fail
            go_roundw
            case rel => exact ⟨j + 1, true, by omega, rfl, by go_num, HV2, HW⟩
            case measure => simp [intOf]; omega
          | false =>
            by_cases e1 : x = 47
            · have HV2 : Hid (true = true ↔ (P ∨ (47 : UInt8) ∈ l.take (j + 1) ∨ (0 : UInt8) ∈ l.take (j + 1))) := by
                rw [Hid, HM47.out, HM0.out]
                exact ⟨fun _ => .inr (.inl (.inr (HX.out.trans e1))), fun _ => rfl⟩
              subst e1
              clear HM47 HM0 HV
              go_wp2_with fail
              go_roundw
              case rel => exact ⟨j + 1, true, by omega, rfl, by go_num, HV2, HW⟩
              case measure => simp [intOf]; omega
            · by_cases e2 : x = 0
              · have HV2 : Hid (true = true ↔ (P ∨ (47 : UInt8) ∈ l.take (j + 1) ∨ (0 : UInt8) ∈ l.take (j + 1))) := by
                  rw [Hid, HM47.out, HM0.out]
                  exact ⟨fun _ => .inr (.inr (.inr (HX.out.trans e2))), fun _ => rfl⟩
                subst e2
                clear HM47 HM0 HV e1
                go_wp2_with fail
                go_roundw
                case rel => exact ⟨j + 1, true, by omega, rfl, by go_num, HV2, HW⟩
                case measure => simp [intOf]; omega
              · have HV2 : Hid (false = true ↔ (P ∨ (47 : UInt8) ∈ l.take (j + 1) ∨ (0 : UInt8) ∈ l.take (j + 1))) := by
                  rw [Hid, HM47.out, HM0.out, HX.out]
                  rw [HV.out]
                  refine ⟨fun h => ?_, fun h => ?_⟩
                  · rcases h with h | h | h
                    · exact .inl h
                    · exact .inr (.inl (.inl h))
                    · exact .inr (.inr (.inl h))
                  · rcases h with h | (h | h) | h | h
                    · exact .inl h
                    · exact .inr (.inl h)
                    · exact absurd h e1
                    · exact .inr (.inr h)
                    · exact absurd h e2
                obtain ⟨c, hc⟩ : ∃ c : Nat, x.toNat = c := ⟨_, rfl⟩
                have n1 : c ≠ 47 := fun h => e1 (UInt8.toNat_inj.1 (hc.trans h))
                have n2 : c ≠ 0 := fun h => e2 (UInt8.toNat_inj.1 (hc.trans h))
                have n3 : ((c : Int) == 47) = false := by rw [beq_eq_false_iff_ne]; omega
                have n4 : ((c : Int) == 0) = false := by rw [beq_eq_false_iff_ne]; omega
                clear HM47 HM0 HV e1 e2
                go_wp2_with fail
                go_roundw
                case rel => exact ⟨j + 1, false, by omega, rfl, by go_num, HV2, HW⟩
                case measure => simp [intOf]; omega
        · obtain rfl : j = l.length := by omega
          have hv := HV.out
          rw [List.take_length] at hv
          have hnm := HN.out bv hv
          have HNM := Lib.hid hnm
          clear hv hnm HV
          cases bv with
          | true =>
            go_wp2_with fail
            go_ret
            exact ⟨by rw [HNM.out]; rfl, HW.out⟩
          | false =>
            go_wp2_with fail
            go_ret
            exact ⟨by rw [HNM.out]; rfl, HW.out⟩
end Go.Proofs.Ytifhnpkapgaboaa.path
