/-
  Proved: what the document's own IsClean and Below give. Conditions: as each theorem says.
-/
import Derived.Test.YtifhnpkapgaboaaPathRef2
namespace Go.Proofs.Ytifhnpkapgaboaa.path
open Go.RowKit Go.Shelf
open heap
set_option linter.unusedVariables false

theorem clean_parts (l : List UInt8) : cleanB l = true ↔ (partsL l).length ≤ 8 ∧ l.length ≤ 140 ∧ ∀ p ∈ partsL l, nameE p = 0 := by
  unfold cleanB partsL
  by_cases h : l = []
  · simp [h]
  · simp only [h, decide_false, Bool.false_or, Bool.and_eq_true, decide_eq_true_eq, if_false]
    exact ⟨fun h => ⟨h.1.2, h.2, h.1.1⟩, fun h => ⟨⟨h.2.2, h.1⟩, h.2.1⟩⟩
theorem parts_bd (l : List UInt8) : (partsL l).length ≤ l.length + 1 ∧ ∀ p ∈ partsL l, p.length ≤ l.length := by
  unfold partsL
  split
  · simp
  · exact ⟨(pieces_bd l).1, fun p hp => ((pieces_bd l).2 p hp).1⟩
set_option maxRecDepth 100000 in
set_option maxHeartbeats 1000000 in
theorem rIsClean_any (l : List UInt8) (w : World) (hl : l.length ≤ 2000000) :
    Calls Try.prog 77 #[sv l] w fun e w' => e = .returned (.bool (cleanB l)) ∧ Below w.heap.size w w' := by
  have z := str_size l
  have HP := Lib.hid (fun W : World => rParts_any l W hl)
  have HCB := Lib.hid (clean_parts l)
  have HBD := Lib.hid (parts_bd l)
  generalize hcb : cleanB l = cb at *
  generalize hxs : partsL l = xs at *
  clear hcb hxs
  go_enter Try.func77, Try.ntmps77
  go_wp2_with fail
  (with_reducible refine (HP.out _).mono ?_); rintro e w1 ⟨v, rfl, hr, hb⟩
  obtain ⟨a1, c1, rfl⟩ := own_slice hr
  have HR := Lib.hid hr
  have HB := Lib.hid hb
  have hxl : xs.length ≤ 2000001 := by have := HBD.out.1; omega
  clear hr hb HP
  by_cases h8 : 8 < xs.length
  · obtain rfl : cb = false := by
      cases cb with
      | false => rfl
      | true => have := (HCB.out.1 rfl).1; omega
    have d8 : decide ((8 : Int) < (xs.length : Int)) = true := decide_eq_true (by omega)
    go_wp2_with fail
    go_ret
    exact ⟨rfl, HB.out⟩
  · have d8 : decide ((8 : Int) < (xs.length : Int)) = false := decide_eq_false (by omega)
    by_cases h140 : 140 < l.length
    · obtain rfl : cb = false := by
        cases cb with
        | false => rfl
        | true => have := (HCB.out.1 rfl).2.1; omega
      have d140 : decide ((140 : Int) < (l.length : Int)) = true := decide_eq_true (by omega)
      go_wp2_with fail
      go_ret
      exact ⟨rfl, HB.out⟩
    · have d140 : decide ((140 : Int) < (l.length : Int)) = false := decide_eq_false (by omega)
      go_wp2_with fail
      go_loopw [4] (fun i wr => ∃ j : Nat, j ≤ xs.length ∧ i = .int .i64 j ∧ Hid ((∀ k q, k < j → xs[k]? = some q → nameE q = 0) ∧ w1 = wr)) (fun i _ => xs.length - (intOf i).toNat)
      case atStart => exact ⟨0, by omega, rfl, fun k q hk => by omega, rfl⟩
      case round =>
        obtain ⟨j, hj, rfl, HH⟩ := hrel
        obtain rfl := HH.out.2
        by_cases hlt : j < xs.length
        · rcases HR.out.cells with ⟨-, hw⟩ | ⟨g1, c', hv', hgl1, hc1, hc2, hcell1⟩
          · rw [hw] at hlt; simp at hlt
          · simp only [Value.slice.injEq] at hv'
            obtain ⟨rfl, -, rfl⟩ := hv'
            obtain ⟨p, hp⟩ : ∃ p, xs[j]? = some p := ⟨_, List.getElem?_eq_getElem hlt⟩
            have hcp1 := hcell1 j p hp
            have hji : (j : Int) < xs.length := by omega
            have hpl := HBD.out.2 p (List.mem_of_getElem? hp)
            have HNM := Lib.hid (fun W : World => rName_any p W (by omega))
            have HPJ := Lib.hid hp
            obtain ⟨er, her⟩ : ∃ er : Int, nameE p = er := ⟨_, rfl⟩
            have HER := Lib.hid her
            rw [her] at HNM
            unfold maxLen at hc2
            clear hcell1 hp her hpl
            go_wp2_with fail
            (with_reducible refine (HNM.out _).mono ?_); rintro e w2 ⟨rfl, rfl⟩
            by_cases he : er = 0
            · subst he
              go_wp2_with fail
              go_roundw
              case rel =>
                refine ⟨j + 1, by omega, by go_num, fun k q hk hkq => ?_, by first | rfl | trivial⟩
                rcases Nat.lt_succ_iff_lt_or_eq.1 hk with h | h
                · exact HH.out.1 k q h hkq
                · rw [h, HPJ.out] at hkq
                  cases hkq
                  exact HER.out
              case measure => simp [intOf]; omega
            · have hne : (er != 0) = true := by rw [bne_iff_ne]; exact he
              obtain rfl : cb = false := by
                cases cb with
                | false => rfl
                | true => exact absurd (HER.out.symm.trans ((HCB.out.1 rfl).2.2 p (List.mem_of_getElem? HPJ.out))) he
              clear he
              go_wp2_with fail
              go_ret
              exact ⟨rfl, HB.out⟩
        · obtain rfl : j = xs.length := by omega
          obtain rfl : cb = true := HCB.out.2 ⟨by omega, by omega, fun p hp => by
            obtain ⟨k, hk⟩ := List.mem_iff_getElem?.1 hp
            exact HH.out.1 k p (by have := (List.getElem?_eq_some_iff.1 hk).1; exact this) hk⟩
          go_wp2_with fail
          go_ret
          exact ⟨rfl, HB.out⟩
theorem pre_iff (s t : List UInt8) : Lib.hasPrefix s (t ++ [47]) = true ↔ s.take t.length = t ∧ s[t.length]? = some 47 := by
  unfold Lib.hasPrefix
  rw [List.isPrefixOf_iff_prefix]
  constructor
  · rintro ⟨r, rfl⟩
    simp
  · rintro ⟨h1, h2⟩
    refine ⟨s.drop (t.length + 1), ?_⟩
    conv => rhs; rw [← List.take_append_drop (t.length + 1) s, List.take_add_one, h1, h2]
    simp
set_option maxRecDepth 100000 in
set_option maxHeartbeats 1000000 in
theorem rBelow_any (s t : List UInt8) (w : World) (hs : s.length ≤ 2000000) (ht : t.length ≤ 2000000) :
    Calls Try.prog 102 #[sv s, sv t] w fun e w' => e = .returned (.bool (belowB s t)) ∧ w = w' := by
  have zs := str_size s
  have zt := str_size t
  by_cases h0 : t = []
  · have HV : Hid (belowB s t = true) := by simp [Hid, belowB, h0]
    rw [HV.out]
    subst h0
    go_enter Try.func102, Try.ntmps102
    go_wp2
    go_ret
    exact ⟨rfl, rfl⟩
  · have b0 : t.isEmpty = false := by cases t <;> simp_all
    have b0' : (t == []) = false := by rw [beq_eq_false_iff_ne]; exact h0
    by_cases h1 : s = t
    · have HV : Hid (belowB s t = true) := by simp [Hid, belowB, h1]
      rw [HV.out]
      subst h1
      clear h0
      go_enter Try.func102, Try.ntmps102
      go_wp2
      go_ret
      exact ⟨rfl, rfl⟩
    · have b1 : (s == t) = false := by rw [beq_eq_false_iff_ne]; exact h1
      have HV : Hid (belowB s t = Lib.hasPrefix s (t ++ [47])) := by simp [Hid, belowB, h0, h1]
      have HI := Lib.hid (pre_iff s t)
      rw [HV.out]
      generalize Lib.hasPrefix s (t ++ [47]) = r at *
      clear h0 h1 HV
      by_cases h2 : t.length < s.length
      · have d2 : decide ((t.length : Int) < (s.length : Int)) = true := decide_eq_true (by omega)
        have hex : (⟨s.toArray⟩ : ByteArray).extract 0 t.length = ⟨(s.take t.length).toArray⟩ := by rw [cut_str]; simp
        have hz : t.length < (⟨s.toArray⟩ : ByteArray).size := by rw [zs]; exact h2
        obtain ⟨x, hx⟩ : ∃ x : UInt8, (⟨s.toArray⟩ : ByteArray)[t.length]'hz = x := ⟨_, rfl⟩
        have HX : Hid (s[t.length]? = some x) := by rw [Hid, List.getElem?_eq_getElem h2]; exact congrArg some hx
        by_cases h3 : s.take t.length = t
        · have b3 : (s.take t.length == t) = true := by rw [beq_iff_eq]; exact h3
          have HI2 : Hid (r = true ↔ x = 47) := by rw [Hid, HI.out, HX.out]; simp [h3]
          generalize s.take t.length = s2 at *
          clear HI h3
          obtain ⟨c, hc⟩ : ∃ c : Nat, x.toNat = c := ⟨_, rfl⟩
          by_cases e1 : x = 47
          · obtain rfl : r = true := HI2.out.2 e1
            have n1 : c = 47 := by rw [← hc, e1]; rfl
            subst n1
            clear e1
            go_enter Try.func102, Try.ntmps102
            go_wp2
            go_ret
            exact ⟨rfl, rfl⟩
          · obtain rfl : r = false := by
              cases r with
              | false => rfl
              | true => exact absurd (HI2.out.1 rfl) e1
            have n1 : c ≠ 47 := fun h => e1 (UInt8.toNat_inj.1 (hc.trans h))
            have n3 : ((c : Int) == 47) = false := by rw [beq_eq_false_iff_ne]; omega
            clear e1
            go_enter Try.func102, Try.ntmps102
            go_wp2
            go_ret
            exact ⟨rfl, rfl⟩
        · have b3 : (s.take t.length == t) = false := by rw [beq_eq_false_iff_ne]; exact h3
          obtain rfl : r = false := by
            cases r with
            | false => rfl
            | true => exact absurd (HI.out.1 rfl).1 h3
          generalize s.take t.length = s2 at *
          clear HI h3
          go_enter Try.func102, Try.ntmps102
          go_wp2
          go_ret
          exact ⟨rfl, rfl⟩
      · have d2 : decide ((t.length : Int) < (s.length : Int)) = false := decide_eq_false (by omega)
        obtain rfl : r = false := by
          cases r with
          | false => rfl
          | true => have := (List.getElem?_eq_some_iff.1 (HI.out.1 rfl).2).1; omega
        clear HI
        go_enter Try.func102, Try.ntmps102
        go_wp2
        go_ret
        exact ⟨rfl, rfl⟩
end Go.Proofs.Ytifhnpkapgaboaa.path
