/-
  Proved: what the document's Encode gives, and the program's small questions on entries. Conditions: as each theorem says.
-/
import Derived.Test.YtifhnpkapgaboaaArch4
import Derived.Test.YtifhnpkapgaboaaPath4m
namespace Go.Proofs.Ytifhnpkapgaboaa.arch
open Go.RowKit Go.Shelf
open heap
open path (sv str_size cleanB cleanR belowB SRow partsL)
set_option linter.unusedVariables false
set_option linter.unusedSimpArgs false
set_option maxRecDepth 100000

set_option maxHeartbeats 1000000 in
theorem rEncode_any (es : List Ent) (b o c : Nat) (w : World) (h : EAt w b o es) (hc : es.length ≤ c) (hcm : c ≤ 9223372036854775807) (hp : ∀ x ∈ es, small x) :
    Calls Try.prog 10 #[layV b o es.length c] w fun r w' => r = .returned (.tuple #[sv (encL es).1, .int .i64 (encL es).2.1, .int .i64 (encL es).2.2]) ∧ Below w.heap.size w w' := by
  have HB : Hid (Below w.heap.size w (w.alloc (.cells #[.slice (some ⟨b, o, none⟩) es.length c] 24 (0, 0)))) := (Below.refl _ _).alloc (Nat.le_refl _) _
  have HBX := Lib.hid (blk_new w (.cells #[.slice (some ⟨b, o, none⟩) es.length c] 24 (0, 0)))
  have HFM := Lib.hid (fun W (hW : Below w.heap.size w W) => Form_any es b o c W (h.below hW) hc hcm hp)
  have HST := Lib.hid (fun W (hW : Below w.heap.size w W) hf => stream_any es b o c W (h.below hW) hc hcm hf)
  clear h hc hcm hp
  go_enter Try.func10, Try.ntmps10
  go_wp2_with fail
  refine (HFM.out _ HB.out).mono ?_; rintro r w1 ⟨rfl, hb⟩
  have hbx := blk_below HBX.out hb
  have q0 := blk_cell hbx 0
  have ql := blk_lt hbx
  simp only [List.getElem?_toArray, List.getElem?_cons_zero] at q0
  have HB1 : Hid (Below w.heap.size w w1) := HB.out.trans (hb.mono HB.out.size)
  clear hb HBX HFM HB hbx
  by_cases hf : (formL es).2 = 0
  · have HF := Lib.hid hf
    have HE : Hid (encL es = if 65536 < (streamL es).length then ([], 0, 1311) else (streamL es, 0, 0)) := by unfold Hid encL; rw [if_neg (by simp [hf])]
    rw [hf]
    clear hf
    go_wp2_with fail
    refine (HST.out _ HB1.out HF.out).mono ?_; rintro r w2 ⟨rfl, hb⟩
    have HB2 : Hid (Below w.heap.size w w2) := HB1.out.trans (hb.mono HB1.out.size)
    have zs := str_size (streamL es)
    clear hb q0 ql
    by_cases hl : 65536 < (streamL es).length
    · rw [if_pos hl] at HE
      have d1 : decide (65536 < ((streamL es).length : Int)) = true := decide_eq_true (by omega)
      clear hl
      go_wp2_with fail
      go_ret3
      exact ⟨by rw [HE.out]; rfl, HB2.out⟩
    · rw [if_neg hl] at HE
      have d1 : decide (65536 < ((streamL es).length : Int)) = false := decide_eq_false (by omega)
      clear hl
      go_wp2_with fail
      go_ret3
      exact ⟨by rw [HE.out]; rfl, HB2.out⟩
  · have hfb : ((formL es).2 != 0) = true := by simp [bne, hf]
    have HE : Hid (encL es = ([], formL es)) := by unfold Hid encL; rw [if_pos hf]
    clear hf
    go_wp2_with fail
    go_ret3
    exact ⟨by rw [HE.out]; rfl, HB1.out⟩
theorem moded_any (e : Ent) (w : World) : Calls Try.prog 73 #[entV e] w fun r w' => r = .returned (.bool (modeB e.kind e.mode)) ∧ Below w.heap.size w w' := by
  have HB : Hid (Below w.heap.size w (w.alloc (entO e))) := (Below.refl _ _).alloc (Nat.le_refl _) _
  obtain ⟨p, k, m, d⟩ := e
  simp only at HB ⊢
  by_cases k3 : k = 3
  · subst k3
    go_enter Try.func73, Try.ntmps73
    go_wp2_with fail
    go_ret
    exact ⟨rfl, HB.out⟩
  · have b3 : (k == 3) = false := beq_eq_false_iff_ne.2 k3
    by_cases k4 : k = 4
    · subst k4
      clear k3 b3
      go_enter Try.func73, Try.ntmps73
      go_wp2_with fail
      go_ret
      exact ⟨rfl, HB.out⟩
    · have b4 : (k == 4) = false := beq_eq_false_iff_ne.2 k4
      have HM : Hid (modeB k m = (decide (0 ≤ m) && decide (m ≤ 511))) := by unfold Hid modeB; rw [if_neg k3, if_neg k4]
      clear k3 k4
      by_cases h0 : 0 ≤ m
      · have d0 : decide (0 ≤ m) = true := decide_eq_true h0
        rw [d0, Bool.true_and] at HM
        go_enter Try.func73, Try.ntmps73
        go_wp2_with fail
        go_ret
        exact ⟨by rw [HM.out]; rfl, HB.out⟩
      · have d0 : decide (0 ≤ m) = false := decide_eq_false h0
        rw [d0, Bool.false_and] at HM
        clear h0
        go_enter Try.func73, Try.ntmps73
        go_wp2_with fail
        go_ret
        exact ⟨by rw [HM.out]; rfl, HB.out⟩
theorem sized_any (k : Int) (n : Nat) (w : World) : Calls Try.prog 74 #[.int .i64 k, .int .i64 n] w fun r w' => r = .returned (.bool (lenB k n)) ∧ w = w' := by
  by_cases k2 : k = 2
  · subst k2
    have HM : Hid (lenB 2 n = decide ((n : Int) ≤ 1024)) := by unfold Hid lenB; rw [if_pos rfl, decide_eq_decide]; omega
    go_enter Try.func74, Try.ntmps74
    go_wp2_with fail
    go_ret
    exact ⟨by rw [HM.out]; rfl, rfl⟩
  · have b2 : (k == 2) = false := beq_eq_false_iff_ne.2 k2
    by_cases k3 : k = 3
    · subst k3
      clear k2 b2
      by_cases h0 : 1 ≤ n
      · have d0 : decide ((1 : Int) ≤ (n : Int)) = true := decide_eq_true (by omega)
        have HM : Hid (lenB 3 n = decide ((n : Int) ≤ 64)) := by
          unfold Hid lenB
          rw [if_neg (by decide), if_pos rfl, decide_eq_true h0, Bool.true_and, decide_eq_decide]; omega
        clear h0
        go_enter Try.func74, Try.ntmps74
        go_wp2_with fail
        go_ret
        exact ⟨by rw [HM.out]; rfl, rfl⟩
      · have d0 : decide ((1 : Int) ≤ (n : Int)) = false := decide_eq_false (by omega)
        have HM : Hid (lenB 3 n = false) := by
          unfold Hid lenB
          rw [if_neg (by decide), if_pos rfl, decide_eq_false h0, Bool.false_and]
        clear h0
        go_enter Try.func74, Try.ntmps74
        go_wp2_with fail
        go_ret
        exact ⟨by rw [HM.out]; rfl, rfl⟩
    · have b3 : (k == 3) = false := beq_eq_false_iff_ne.2 k3
      have HM : Hid (lenB k n = ((n : Int) == 0)) := by
        unfold Hid lenB
        rw [if_neg k2, if_neg k3, Bool.eq_iff_iff, beq_iff_eq, beq_iff_eq]; omega
      clear k2 k3
      go_enter Try.func74, Try.ntmps74
      go_wp2_with fail
      go_ret
      exact ⟨by rw [HM.out]; rfl, rfl⟩
theorem isNaN_any (a : List UInt8) (w : World) : Calls Try.prog 124 #[sv a] w fun e w' => e = .returned (.bool false) ∧ w = w' := by
  go_enter Try.func124, Try.ntmps124
  go_wp2
  go_ret
  exact ⟨rfl, rfl⟩
def cmpL (a b : List UInt8) : Int := if Op.bytesLess a b = true then -1 else if a = b then 0 else 1
theorem Compare_any (a b : List UInt8) (w : World) : Calls Try.prog 106 #[sv a, sv b] w fun e w' => e = .returned (.int .i64 (cmpL a b)) ∧ w = w' := by
  have HV := Lib.hid (show cmpL a b = if Op.bytesLess a b = true then -1 else if a = b then 0 else 1 from rfl)
  generalize cmpL a b = r at *
  cases hl : Op.bytesLess a b with
  | true =>
    obtain rfl : r = -1 := by rw [HV.out, if_pos hl]
    go_enter Try.func106, Try.ntmps106
    go_wp2_with fail
    (with_reducible refine (isNaN_any _ _).mono ?_); rintro e w1 ⟨rfl, rfl⟩
    go_wp2_with fail
    (with_reducible refine (isNaN_any _ _).mono ?_); rintro e w1 ⟨rfl, rfl⟩
    go_wp2_with fail
    go_ret
    exact ⟨rfl, rfl⟩
  | false =>
    by_cases he : a = b
    · obtain rfl : r = 0 := by rw [HV.out, if_neg (by simp [hl]), if_pos he]
      have h2 : (a == b) = true := by rw [beq_iff_eq]; exact he
      clear he
      go_enter Try.func106, Try.ntmps106
      go_wp2_with fail
      (with_reducible refine (isNaN_any _ _).mono ?_); rintro e w1 ⟨rfl, rfl⟩
      go_wp2_with fail
      (with_reducible refine (isNaN_any _ _).mono ?_); rintro e w1 ⟨rfl, rfl⟩
      go_wp2_with fail
      go_ret
      exact ⟨rfl, rfl⟩
    · obtain rfl : r = 1 := by rw [HV.out, if_neg (by simp [hl]), if_neg he]
      have h2 : (a == b) = false := by rw [beq_eq_false_iff_ne]; exact he
      clear he
      go_enter Try.func106, Try.ntmps106
      go_wp2_with fail
      (with_reducible refine (isNaN_any _ _).mono ?_); rintro e w1 ⟨rfl, rfl⟩
      go_wp2_with fail
      (with_reducible refine (isNaN_any _ _).mono ?_); rintro e w1 ⟨rfl, rfl⟩
      go_wp2_with fail
      go_ret
      exact ⟨rfl, rfl⟩
theorem cmp_is : ∀ (a b : Nm), cmpL a b = cmpT a b
  | [], [] => rfl
  | [], _ :: _ => rfl
  | x :: a, [] => by simp [cmpL, cmpT, Op.bytesLess]
  | x :: a, y :: b => by
    have ih := cmp_is a b
    by_cases h : x = y
    · subst h
      rw [cmpT_cons, ← ih]
      unfold cmpL
      simp [Op.bytesLess]
    · rw [cmpT, if_neg h]
      unfold cmpL
      by_cases hl : x < y
      · simp [Op.bytesLess, hl]
      · simp [Op.bytesLess, hl, h]
theorem tCompare_any (a b : Nm) (w : World) : Calls Try.prog 106 #[sv a, sv b] w fun e w' => e = .returned (.int .i64 (cmpT a b)) ∧ w = w' := by
  rw [← cmp_is a b]; exact Compare_any a b w
theorem cmpP_drop (ps qs : List Nm) (i : Nat) (p q : Nm) (h1 : ps[i]? = some p) (h2 : qs[i]? = some q) : cmpP (ps.drop i) (qs.drop i) = if cmpT p q = 0 then cmpP (ps.drop (i + 1)) (qs.drop (i + 1)) else cmpT p q := by
  obtain ⟨l1, rfl⟩ := List.getElem?_eq_some_iff.1 h1
  obtain ⟨l2, rfl⟩ := List.getElem?_eq_some_iff.1 h2
  rw [List.drop_eq_getElem_cons l1, List.drop_eq_getElem_cons l2, cmpP]
theorem cmpP_more (ps qs : List Nm) (i : Nat) (h1 : i < ps.length) (h2 : qs.length ≤ i) : cmpP (ps.drop i) (qs.drop i) = 1 := by
  rw [List.drop_eq_getElem_cons h1, List.drop_eq_nil_of_le h2]; rfl
theorem cmpP_end (ps qs : List Nm) (i : Nat) (h1 : ps.length ≤ i) : cmpP (ps.drop i) (qs.drop i) = if i < qs.length then -1 else 0 := by
  rw [List.drop_eq_nil_of_le h1]
  by_cases h : i < qs.length
  · rw [List.drop_eq_getElem_cons h, if_pos h]; rfl
  · rw [List.drop_eq_nil_of_le (by omega), if_neg h]; rfl
set_option maxHeartbeats 1000000 in
theorem sCompare_any (ps qs : List Nm) (v1 v2 : Value) (b1 b2 : Nat) (w : World) (h1 : SRow w b1 v1 ps) (h2 : SRow w b2 v2 qs) :
    Calls Try.prog 90 #[v1, v2] w fun e w' => e = .returned (.int .i64 (cmpP ps qs)) ∧ w = w' := by
  have c1 := path.SRow.cells h1
  have c2 := path.SRow.cells h2
  obtain ⟨a1, n1, rfl⟩ : ∃ a n, v1 = .slice a ps.length n := by
    rcases c1 with ⟨e1, e2⟩ | ⟨g, c, e1, -⟩
    · exact ⟨none, 0, by rw [e1, e2]; rfl⟩
    · exact ⟨_, _, e1⟩
  obtain ⟨a2, n2, rfl⟩ : ∃ a n, v2 = .slice a qs.length n := by
    rcases c2 with ⟨e1, e2⟩ | ⟨g, c, e1, -⟩
    · exact ⟨none, 0, by rw [e1, e2]; rfl⟩
    · exact ⟨_, _, e1⟩
  have C1 := Lib.hid c1
  have C2 := Lib.hid c2
  clear c1 c2 h1 h2
  go_enter Try.func90, Try.ntmps90
  go_wp2_with fail
  go_loopg [11] ps.length (fun kk v11 wr => ∃ i : Nat, i + kk = ps.length ∧ i ≤ qs.length ∧ v11 = .int .i64 i ∧ Hid (cmpP ps qs = cmpP (ps.drop i) (qs.drop i)) ∧ w = wr)
  case atStart => exact ⟨0, by omega, by omega, rfl, rfl, rfl⟩
  case round =>
    obtain ⟨i, hik, hiq, rfl, HP, rfl⟩ := hrel
    by_cases hlt : i < ps.length
    · cases gk with
      | zero => omega
      | succ gk =>
      obtain ⟨p, hp⟩ : ∃ p, ps[i]? = some p := ⟨_, List.getElem?_eq_getElem hlt⟩
      rcases C1.out with ⟨-, h0⟩ | ⟨g, c, e1, hg, hc1, hc2, hcl⟩
      · rw [h0] at hlt; exact absurd hlt (by simp)
      cases e1
      have x0 := hcl i p hp
      unfold maxLen at hc2
      have hii : (i : Int) < (ps.length : Int) := by omega
      clear hcl
      by_cases h2 : i < qs.length
      · obtain ⟨q, hq⟩ : ∃ q, qs[i]? = some q := ⟨_, List.getElem?_eq_getElem h2⟩
        rcases C2.out with ⟨-, h0⟩ | ⟨g2, c2, e2, hg2, hd1, hd2, hcl2⟩
        · rw [h0] at h2; exact absurd h2 (by simp)
        cases e2
        have y0 := hcl2 i q hq
        unfold maxLen at hd2
        have d1 : decide ((qs.length : Int) ≤ (i : Int)) = false := decide_eq_false (by omega)
        have hqq : (i : Int) < (qs.length : Int) := by omega
        have HD := Lib.hid (HP.out.trans (cmpP_drop ps qs i p q hp hq))
        clear hcl2 hp hq HP
        go_wp2_with fail
        refine (tCompare_any p q _).mono ?_; rintro e w' ⟨rfl, rfl⟩
        by_cases h0 : cmpT p q = 0
        · rw [h0, if_pos rfl] at HD
          rw [h0]
          clear h0
          go_wp2_with fail
          go_roundg gk
          case rel => exact ⟨i + 1, by omega, by omega, by go_num, HD, rfl⟩
          case measure => omega
        · rw [if_neg h0] at HD
          have hb : (cmpT p q != 0) = true := by simp [bne, h0]
          clear h0
          go_wp2_with fail
          go_ret
          exact ⟨by rw [HD.out]; rfl, rfl⟩
      · have d1 : decide ((qs.length : Int) ≤ (i : Int)) = true := decide_eq_true (by omega)
        have HD := Lib.hid (HP.out.trans (cmpP_more ps qs i hlt (by omega)))
        clear HP hp
        go_wp2_with fail
        go_ret
        exact ⟨by rw [HD.out]; rfl, rfl⟩
    · have hi2 : i = ps.length := by omega
      subst hi2
      have HD := Lib.hid (HP.out.trans (cmpP_end ps qs ps.length (Nat.le_refl _)))
      clear HP
      by_cases h2 : ps.length < qs.length
      · have d1 : decide ((ps.length : Int) < (qs.length : Int)) = true := decide_eq_true (by omega)
        rw [if_pos h2] at HD
        go_wp2_with fail
        go_ret
        exact ⟨by rw [HD.out]; rfl, rfl⟩
      · have d1 : decide ((ps.length : Int) < (qs.length : Int)) = false := decide_eq_false (by omega)
        rw [if_neg h2] at HD
        go_wp2_with fail
        go_ret
        exact ⟨by rw [HD.out]; rfl, rfl⟩
theorem eCompare_any (a b : Nm) (w : World) (ha : a.length ≤ 8796093022206) (hb : b.length ≤ 8796093022206) :
    Calls Try.prog 68 #[sv a, sv b] w fun e w' => e = .returned (.int .i64 (cmpE a b)) ∧ Below w.heap.size w w' := by
  have H1 := Lib.hid (fun W => path.Parts_any a W ha)
  have H2 := Lib.hid (fun W => path.Parts_any b W hb)
  go_enter Try.func68, Try.ntmps68
  go_wp2_with fail
  refine (H1.out _).mono ?_; rintro e w1 ⟨v1, rfl, hr1, hb1⟩
  have R1 := Lib.hid hr1
  have B1 := Lib.hid hb1
  clear hr1 hb1 H1
  go_wp2_with fail
  refine (H2.out _).mono ?_; rintro e w2 ⟨v2, rfl, hr2, hb2⟩
  have R2 := Lib.hid hr2
  have R1' := Lib.hid (R1.out.below hb2)
  have B2 : Hid (Below w.heap.size w w2) := B1.out.trans (hb2.mono B1.out.size)
  clear hr2 hb2 H2 R1 B1
  go_wp2_with fail
  refine (sCompare_any (partsL a) (partsL b) v1 v2 _ _ _ R1'.out R2.out).mono ?_; rintro e w' ⟨rfl, rfl⟩
  go_wp2_with fail
  go_ret
  exact ⟨rfl, B2.out⟩
end Go.Proofs.Ytifhnpkapgaboaa.arch
