/-
  Proved: what cmp.Compare, slices.BinarySearchFunc give; rows of mounts. Conditions: as each theorem says.
-/
import Derived.Test.YtdbonbdgoekkcaaPath4m
namespace Go.Proofs.Ytdbonbdgoekkcaa.mounts
open Go.RowKit Go.Shelf
open heap path
set_option linter.unusedVariables false

theorem isNaN_any (a : List UInt8) (w : World) : Calls Try.prog 26 #[sv a] w fun e w' => e = .returned (.bool false) ∧ w = w' := by
  go_enter Try.func26, Try.ntmps26
  go_wp2
  go_ret
  exact ⟨rfl, rfl⟩
def cmpL (a b : List UInt8) : Int := if Op.bytesLess a b = true then -1 else if a = b then 0 else 1
theorem Compare_any (a b : List UInt8) (w : World) : Calls Try.prog 21 #[sv a, sv b] w fun e w' => e = .returned (.int .i64 (cmpL a b)) ∧ w = w' := by
  have HV := Lib.hid (show cmpL a b = if Op.bytesLess a b = true then -1 else if a = b then 0 else 1 from rfl)
  generalize cmpL a b = r at *
  cases hl : Op.bytesLess a b with
  | true =>
    obtain rfl : r = -1 := by rw [HV.out, if_pos hl]
    go_enter Try.func21, Try.ntmps21
    go_wp2_with fail
    (with_reducible refine (isNaN_any _ _).mono ?_); rintro e w1 ⟨rfl, rfl⟩
    go_wp2_with fail
    (with_reducible refine (isNaN_any _ _).mono ?_); rintro e w1 ⟨rfl, rfl⟩
    go_wp2_with fail
    go_ret
    exact ⟨rfl, rfl⟩
  | false =>
    by_cases he : a = b
    · obtain rfl : r = 0 := by rw [HV.out, if_neg (by simp [hl]), if_pos he]
      have h2 : (a == b) = true := by rw [beq_iff_eq]; exact he
      clear he
      go_enter Try.func21, Try.ntmps21
      go_wp2_with fail
      (with_reducible refine (isNaN_any _ _).mono ?_); rintro e w1 ⟨rfl, rfl⟩
      go_wp2_with fail
      (with_reducible refine (isNaN_any _ _).mono ?_); rintro e w1 ⟨rfl, rfl⟩
      go_wp2_with fail
      go_ret
      exact ⟨rfl, rfl⟩
    · obtain rfl : r = 1 := by rw [HV.out, if_neg (by simp [hl]), if_neg he]
      have h2 : (a == b) = false := by rw [beq_eq_false_iff_ne]; exact he
      clear he
      go_enter Try.func21, Try.ntmps21
      go_wp2_with fail
      (with_reducible refine (isNaN_any _ _).mono ?_); rintro e w1 ⟨rfl, rfl⟩
      go_wp2_with fail
      (with_reducible refine (isNaN_any _ _).mono ?_); rintro e w1 ⟨rfl, rfl⟩
      go_wp2_with fail
      go_ret
      exact ⟨rfl, rfl⟩
/-- A mount. -/
structure Mt where
  at_ : List UInt8
  fr : List UInt8
  on : Bool
  deriving DecidableEq
def mtC (m : Mt) : List Value := [sv m.at_, sv m.fr, .bool m.on]
abbrev mtV (m : Mt) : Value := .agg #[sv m.at_, sv m.fr, .bool m.on]
def mtCs (ms : List Mt) : List Value := ms.flatMap mtC
theorem mtCs_len (ms : List Mt) : (mtCs ms).length = ms.length * 3 := by
  induction ms with
  | nil => rfl
  | cons m ms ih =>
    show (mtC m ++ mtCs ms).length = _
    rw [List.length_append, ih]
    simp [mtC]
    omega
theorem mtCs_get (ms : List Mt) (j : Nat) (m : Mt) (h : ms[j]? = some m) : (mtCs ms)[j * 3]? = some (sv m.at_) ∧ (mtCs ms)[j * 3 + 1]? = some (sv m.fr) ∧ (mtCs ms)[j * 3 + 2]? = some (.bool m.on) := by
  induction ms generalizing j with
  | nil => simp at h
  | cons x ms ih =>
    have e : mtCs (x :: ms) = mtC x ++ mtCs ms := rfl
    rw [e]
    cases j with
    | zero =>
      simp at h
      subst h
      exact ⟨rfl, rfl, rfl⟩
    | succ j =>
      have := ih j (by simpa using h)
      have l3 : (mtC x).length = 3 := rfl
      rw [List.getElem?_append_right (by rw [l3]; omega), List.getElem?_append_right (by rw [l3]; omega), List.getElem?_append_right (by rw [l3]; omega), l3]
      rw [show (j + 1) * 3 - 3 = j * 3 by omega, show (j + 1) * 3 + 1 - 3 = j * 3 + 1 by omega, show (j + 1) * 3 + 2 - 3 = j * 3 + 2 by omega]
      exact this
def MRow (w : World) (base : Nat) (v : Value) (ms : List Mt) : Prop := w.ownsRow base 29 3 v ms.length (mtCs ms)
theorem mrow_kept {w w' : World} {base : Nat} {v : Value} {ms : List Mt} (h : MRow w base v ms) (hk : ∀ g o, v.ownBlock = some g → w.heap[g]? = some o → w'.heap[g]? = some o) : MRow w' base v ms := by
  obtain ⟨hl, h1 | ⟨g, c, cur, rfl, h2, h3, h4⟩⟩ := h
  · exact ⟨hl, .inl h1⟩
  · exact ⟨hl, .inr ⟨g, c, cur, rfl, h2, hk g _ rfl h3, h4⟩⟩
theorem MRow.below {w w' : World} {base : Nat} {v : Value} {ms : List Mt} (h : MRow w base v ms) (hb : Below w.heap.size w w') : MRow w' base v ms := mrow_kept h (fun g o hg ho => blk_below ho hb)
theorem MRow.slice {w : World} {base : Nat} {v : Value} {ms : List Mt} (h : MRow w base v ms) : ∃ a c, v = .slice a ms.length c := by
  obtain ⟨_, ⟨h, h0⟩ | ⟨_, _, _, h, _⟩⟩ := h
  · exact ⟨none, 0, by rw [h, h0]⟩
  · exact ⟨_, _, h⟩
theorem MRow.cells {w : World} {base : Nat} {v : Value} {ms : List Mt} (h : MRow w base v ms) : (v = .slice none 0 0 ∧ ms = []) ∨ ∃ g c, v = .slice (some ⟨g, 0, none⟩) ms.length c ∧ g < w.heap.size ∧ base ≤ g ∧ ms.length ≤ c ∧ c ≤ maxLen ∧
    ∀ j m, ms[j]? = some m → w.cell? ⟨g, j * 3, none⟩ = some (sv m.at_) ∧ w.cell? ⟨g, j * 3 + 1, none⟩ = some (sv m.fr) ∧ w.cell? ⟨g, j * 3 + 2, none⟩ = some (.bool m.on) := by
  have hlt := World.ownsRow.lt h
  have hcl := @World.ownsRow.cells _ _ _ _ _ _ _ h
  obtain ⟨hl, ⟨h1, h2⟩ | ⟨g, c, cur, hv, h2, h3, h4, h5, h6, h7⟩⟩ := h
  · exact .inl ⟨h1, List.length_eq_zero_iff.1 h2⟩
  · refine .inr ⟨g, c, hv, (hlt g (by rw [hv]; rfl)).2, h2, h4, h5, fun j m hm => ?_⟩
    obtain ⟨e0, e1, e2⟩ := mtCs_get ms j m hm
    have k0 := hcl (g := g) (by rw [hv]; rfl) _ _ e0
    have k1 := hcl (g := g) (by rw [hv]; rfl) _ _ e1
    have k2 := hcl (g := g) (by rw [hv]; rfl) _ _ e2
    rw [add0] at k0 k1 k2
    exact ⟨k0, k1, k2⟩
set_option maxRecDepth 100000 in
theorem find1_any (m : Mt) (t : List UInt8) (w : World) : Calls Try.prog 20 #[mtV m, sv t] w fun e w' => e = .returned (.int .i64 (cmpL m.at_ t)) ∧ Below w.heap.size w w' := by
  have HC := Lib.hid (fun W : World => Compare_any m.at_ t W)
  go_enter Try.func20, Try.ntmps20
  go_wp2_with fail
  (with_reducible refine (HC.out _).mono ?_); rintro e w1 ⟨rfl, rfl⟩
  go_wp2_with fail
  go_ret
  exact ⟨rfl, (Below.refl _ _).alloc (Nat.le_refl _) _⟩
/-- The place that a halving comes to. -/
def bsF (f : Nat → Int) : Nat → Nat → Nat → Nat
  | 0, i, _ => i
  | k + 1, i, j => if i < j then (if f ((i + j) / 2) < 0 then bsF f k ((i + j) / 2 + 1) j else bsF f k i ((i + j) / 2)) else i
def cmpAt (ms : List Mt) (t : List UInt8) (k : Nat) : Int := match ms[k]? with
  | some m => cmpL m.at_ t
  | none => 0
def findK (ms : List Mt) (t : List UInt8) : Nat := bsF (cmpAt ms t) (ms.length + 1) 0 ms.length
def findB (ms : List Mt) (t : List UInt8) : Bool := decide (findK ms t < ms.length) && decide (cmpAt ms t (findK ms t) = 0)
set_option maxRecDepth 100000 in
set_option maxHeartbeats 1000000 in
theorem Search_any (base : Nat) (v : Value) (ms : List Mt) (t : List UInt8) (w : World) (h : MRow w base v ms) (hn : ms.length ≤ 1000) :
    Calls Try.prog 19 #[v, sv t, .func (.func 20) #[] #[]] w fun e w' => e = .returned (.tuple #[.int .i64 (findK ms t), .bool (findB ms t)]) ∧ Below w.heap.size w w' := by
  obtain ⟨a1, c1, rfl⟩ := h.slice
  have H1 := Lib.hid h
  have HK := Lib.hid (show findK ms t = bsF (cmpAt ms t) (ms.length + 1) 0 ms.length from rfl)
  have HBB := Lib.hid (show findB ms t = (decide (findK ms t < ms.length) && decide (cmpAt ms t (findK ms t) = 0)) from rfl)
  generalize findK ms t = K at *
  generalize findB ms t = BB at *
  clear h
  go_enter Try.func19, Try.ntmps19
  go_wp2_with fail
  go_loopw [9, 10] (fun vi vj wr => ∃ i j k : Nat, i ≤ j ∧ j ≤ ms.length ∧ vi = .int .i64 i ∧ vj = .int .i64 j ∧ Hid (j - i < k ∧ K = bsF (cmpAt ms t) k i j ∧ Below w.heap.size w wr)) (fun vi vj _ => (intOf vj).toNat - (intOf vi).toNat)
  case atStart => exact ⟨0, ms.length, ms.length + 1, by omega, by omega, rfl, rfl, by omega, HK.out, Below.refl _ _⟩
  case round =>
    obtain ⟨i, j, k, hij, hj, rfl, rfl, HH⟩ := hrel
    by_cases hlt : i < j
    · rcases (MRow.below H1.out HH.out.2.2).cells with ⟨-, hw⟩ | ⟨g, c', hv', hgl, hgb, hc1, hc2, hcell⟩
      · rw [hw] at hj; simp at hj; omega
      · simp only [Value.slice.injEq] at hv'
        obtain ⟨rfl, -, rfl⟩ := hv'
        have hi : (i : Int) < j := by omega
        obtain ⟨m, hm⟩ : ∃ m, ms[(i + j) / 2]? = some m := ⟨_, List.getElem?_eq_getElem (by omega)⟩
        obtain ⟨k0, k1, k2⟩ := hcell _ m hm
        obtain ⟨at1, fr1, on1⟩ := m
        have HF := Lib.hid (fun W : World => find1_any ⟨at1, fr1, on1⟩ t W)
        have HCM : Hid (cmpAt ms t ((i + j) / 2) = cmpL at1 t) := by rw [Hid, cmpAt, hm]
        simp only at k0 k1 k2 HF
        obtain ⟨k', rfl⟩ : ∃ k', k = k' + 1 := ⟨k - 1, by have := HH.out.1; omega⟩
        have HST : Hid (K = if cmpL at1 t < 0 then bsF (cmpAt ms t) k' ((i + j) / 2 + 1) j else bsF (cmpAt ms t) k' i ((i + j) / 2)) := by
          rw [Hid, HH.out.2.1, bsF, if_pos hlt, HCM.out]
        have hh1 : (i + j) / 2 < j := by omega
        have hh2 : i ≤ (i + j) / 2 := by omega
        have hs : IntKind.i64.wrap ((i : Int) + j) = ((i + j : Nat) : Int) := by rw [IntKind.wrap_i64]; omega
        have hu : IntKind.u64.wrap (((i + j : Nat) : Int)) = ((i + j : Nat) : Int) := by rw [IntKind.wrap_u64]; omega
        have hd : (((i + j : Nat) : Int)) / 2 = (((i + j) / 2 : Nat) : Int) := by omega
        have hb : IntKind.i64.wrap ((((i + j) / 2 : Nat)) : Int) = (((i + j) / 2 : Nat) : Int) := by rw [IntKind.wrap_i64]; omega
        unfold maxLen at hc2
        clear hm hcell
        go_wp2_with fail
        (with_reducible refine (HF.out _).mono ?_); rintro e w1 ⟨rfl, hb1⟩
        have HB1 : Hid (Below w.heap.size w w1) := HH.out.2.2.trans (hb1.mono HH.out.2.2.size)
        have hk := HH.out.1
        clear hb1 hs hu hd hb
        generalize cmpL at1 t = cr at *
        by_cases hcr : cr < 0
        · have hd : decide (cr < 0) = true := decide_eq_true hcr
          have HS2 := Lib.hid (HST.out.trans (if_pos hcr))
          go_wp2_with fail
          go_roundw
          case rel => exact ⟨(i + j) / 2 + 1, j, k', by omega, by omega, by go_num, rfl, by omega, HS2.out, HB1.out⟩
          case measure => simp [intOf]; omega
        · have hd : decide (cr < 0) = false := decide_eq_false hcr
          have HS2 := Lib.hid (HST.out.trans (if_neg hcr))
          go_wp2_with fail
          go_roundw
          case rel => exact ⟨i, (i + j) / 2, k', by omega, by omega, rfl, by go_num, by omega, HS2.out, HB1.out⟩
          case measure => simp [intOf]; omega
    · obtain rfl : i = j := by omega
      obtain ⟨k', rfl⟩ : ∃ k', k = k' + 1 := ⟨k - 1, by have := HH.out.1; omega⟩
      obtain rfl : K = i := by rw [HH.out.2.1, bsF, if_neg (by omega)]
      have HB1 := Lib.hid HH.out.2.2
      clear HH HK
      by_cases hin : K < ms.length
      · rcases (MRow.below H1.out HB1.out).cells with ⟨-, hw⟩ | ⟨g, c', hv', hgl, hgb, hc1, hc2, hcell⟩
        · rw [hw] at hin; simp at hin
        · simp only [Value.slice.injEq] at hv'
          obtain ⟨rfl, -, rfl⟩ := hv'
          have hi : (K : Int) < ms.length := by omega
          obtain ⟨m, hm⟩ : ∃ m, ms[K]? = some m := ⟨_, List.getElem?_eq_getElem hin⟩
          obtain ⟨k0, k1, k2⟩ := hcell _ m hm
          obtain ⟨at1, fr1, on1⟩ := m
          have HF := Lib.hid (fun W : World => find1_any ⟨at1, fr1, on1⟩ t W)
          have HCM : Hid (cmpAt ms t K = cmpL at1 t) := by rw [Hid, cmpAt, hm]
          simp only at k0 k1 k2 HF
          have HB2 : Hid (BB = decide (cmpL at1 t = 0)) := by rw [Hid, HBB.out, HCM.out, decide_eq_true hin, Bool.true_and]
          unfold maxLen at hc2
          clear hm hcell
          go_wp2_with fail
          (with_reducible refine (HF.out _).mono ?_); rintro e w1 ⟨rfl, hb1⟩
          have HB3 : Hid (Below w.heap.size w w1) := HB1.out.trans (hb1.mono HB1.out.size)
          clear hb1
          generalize cmpL at1 t = cr at *
          by_cases hcr : cr = 0
          · obtain rfl : BB = true := by rw [HB2.out]; exact decide_eq_true hcr
            subst hcr
            go_wp2_with fail
            first | go_ret | go_ret2
            exact ⟨rfl, HB3.out⟩
          · obtain rfl : BB = false := by rw [HB2.out]; exact decide_eq_false hcr
            have hd : (cr == 0) = false := by rw [beq_eq_false_iff_ne]; exact hcr
            clear hcr
            go_wp2_with fail
            first | go_ret | go_ret2
            exact ⟨rfl, HB3.out⟩
      · obtain rfl : BB = false := by rw [HBB.out, decide_eq_false hin, Bool.false_and]
        obtain rfl : K = ms.length := by omega
        go_wp2_with fail
        first | go_ret | go_ret2
        exact ⟨rfl, HB1.out⟩
end Go.Proofs.Ytdbonbdgoekkcaa.mounts
