/-
  Proved: what lex.text returns (written by wip/bin/lex3.py). Conditions: as each theorem says.
-/
import Derived.Test.YtjanpaallealgaaDoorLex2
import Derived.Test.YtjanpaallealgaaDoorBuild
namespace Go.Proofs.YtjanpaallealgaaDoor.lex
open Go.RowKit
open flt (isD)
open heap
open num (list_len drop_cons ret_pair)
set_option linter.unusedVariables false
set_option maxRecDepth 100000

abbrev IsB (b : Nat) (acc : List UInt8) (w : World) : Prop := Lib.IsBuilder 62 5 b b (Lib.byteCells acc) w
/-- What text returns. -/
def textR (l : List UInt8) : List UInt8 × Nat := match qtS false (l.drop 1) with
  | none => ([], 0)
  | some x => if 1024 < x.1.length then ([], 0) else (x.1, x.2 + 1)
def TxAt (s : ByteArray) (i : Nat) (acc : List UInt8) : Prop := 1 ≤ i ∧ acc.length ≤ i ∧ qtS false (s.data.toList.drop 1) = (qtS false (s.data.toList.drop i)).map fun x => (acc ++ x.1, i - 1 + x.2)
theorem TxAt.quote {s : ByteArray} {i : Nat} {acc : List UInt8} (h : TxAt s i acc) (hi : i < s.size) (hc : s[i] = 34) : textR s.data.toList = if 1024 < acc.length then ([], 0) else (acc, i + 1) := by
  unfold textR
  rw [h.2.2, drop_cons s i hi, hc]
  have e : qtS false (34 :: s.data.toList.drop (i + 1)) = some ([], 1) := by simp [qtS]
  rw [e]
  have := h.1
  simp only [Option.map_some, List.append_nil]
  split
  · rfl
  · rw [show i - 1 + 1 + 1 = i + 1 by omega]
theorem TxAt.nil' {s : ByteArray} {i : Nat} {acc : List UInt8} (h : TxAt s i acc) (hn : qtS false (s.data.toList.drop i) = none) : textR s.data.toList = ([], 0) := by
  unfold textR
  rw [h.2.2, hn]; rfl
theorem TxAt.low {s : ByteArray} {i : Nat} {acc : List UInt8} (h : TxAt s i acc) (hi : i < s.size) (h1 : s[i] ≠ 34) (hc : s[i].toNat < 32) : textR s.data.toList = ([], 0) := by
  refine h.nil' ?_
  rw [drop_cons s i hi, qtS, if_neg h1, if_pos hc]
theorem TxAt.over {s : ByteArray} {i : Nat} {acc : List UInt8} (h : TxAt s i acc) (hi : s.size ≤ i) : textR s.data.toList = ([], 0) := by
  refine h.nil' ?_
  rw [List.drop_eq_nil_of_le (by rw [list_len]; exact hi)]; rfl
theorem TxAt.step {s : ByteArray} {i : Nat} {acc : List UInt8} (h : TxAt s i acc) (hi : i < s.size) (h1 : s[i] ≠ 34) (hc : ¬ s[i].toNat < 32) (h2 : s[i] ≠ 92) : TxAt s (i + 1) (acc ++ [s[i]]) := by
  refine ⟨by omega, by have := h.2.1; simp; omega, ?_⟩
  rw [h.2.2, drop_cons s i hi, qtS, if_neg h1, if_neg hc, if_neg h2, Option.map_map]
  congr 1
  funext x
  have := h.1
  simp only [Function.comp, List.append_assoc, List.singleton_append, Prod.mk.injEq, true_and]
  omega
theorem TxAt.end' {s : ByteArray} {i : Nat} {acc : List UInt8} (h : TxAt s i acc) (hi : i < s.size) (h2 : s[i] = 92) (he : s.size ≤ i + 1) : textR s.data.toList = ([], 0) := by
  refine h.nil' ?_
  rw [drop_cons s i hi, h2, List.drop_eq_nil_of_le (by rw [list_len]; exact he)]
  decide
theorem TxAt.esc {s : ByteArray} {i : Nat} {acc : List UInt8} {e : UInt8} (h : TxAt s i acc) (hi : i + 1 < s.size) (h2 : s[i] = 92) (he : escB s[i + 1] = some e) : TxAt s (i + 2) (acc ++ [e]) := by
  refine ⟨by omega, by have := h.2.1; simp; omega, ?_⟩
  rw [h.2.2, drop_cons s i (by omega), h2, drop_cons s (i + 1) hi]
  have e1 : ∀ r : List UInt8, qtS false (92 :: s[i + 1] :: r) = (qtS false r).map fun x => (e :: x.1, x.2 + 2) := by
    intro r
    rw [qtS, if_neg (by decide), if_neg (by decide), if_pos rfl, qtS, he]
    simp only [Option.map_map]
    rfl
  rw [e1, Option.map_map]
  congr 1
  funext x
  have := h.1
  simp only [Function.comp, List.append_assoc, List.singleton_append, Prod.mk.injEq, true_and]
  omega
theorem TxAt.noesc {s : ByteArray} {i : Nat} {acc : List UInt8} (h : TxAt s i acc) (hi : i + 1 < s.size) (h2 : s[i] = 92) (he : escB s[i + 1] = none) : textR s.data.toList = ([], 0) := by
  refine h.nil' ?_
  rw [drop_cons s i (by omega), h2, drop_cons s (i + 1) hi, qtS, if_neg (by decide), if_neg (by decide), if_pos rfl, qtS, he]
  rfl
theorem esc_cases (d : UInt8) : (escB d = some 34 ∧ Lib.indexByte [34, 92, 110, 116] d = 0) ∨ (escB d = some 92 ∧ Lib.indexByte [34, 92, 110, 116] d = 1) ∨ (escB d = some 10 ∧ Lib.indexByte [34, 92, 110, 116] d = 2) ∨ (escB d = some 9 ∧ Lib.indexByte [34, 92, 110, 116] d = 3) ∨ (escB d = none ∧ Lib.indexByte [34, 92, 110, 116] d = -1) := by
  have h : ∀ n : Fin 256, (escB (UInt8.ofNat n.val) = some 34 ∧ Lib.indexByte [34, 92, 110, 116] (UInt8.ofNat n.val) = 0) ∨ (escB (UInt8.ofNat n.val) = some 92 ∧ Lib.indexByte [34, 92, 110, 116] (UInt8.ofNat n.val) = 1) ∨ (escB (UInt8.ofNat n.val) = some 10 ∧ Lib.indexByte [34, 92, 110, 116] (UInt8.ofNat n.val) = 2) ∨ (escB (UInt8.ofNat n.val) = some 9 ∧ Lib.indexByte [34, 92, 110, 116] (UInt8.ofNat n.val) = 3) ∨ (escB (UInt8.ofNat n.val) = none ∧ Lib.indexByte [34, 92, 110, 116] (UInt8.ofNat n.val) = -1) := by decide +kernel
  have := h ⟨d.toNat, d.toNat_lt⟩
  simpa using this
theorem u8_ne {c : UInt8} {n : Nat} (hn : n < 256) (h : ((c.toNat : Int) == (n : Int)) = false) : c ≠ UInt8.ofNat n := by
  intro e; subst e
  have : (UInt8.ofNat n).toNat = n := by simp; omega
  rw [this] at h; simp at h
theorem u8_eq {c : UInt8} {n : Nat} (hn : n < 256) (h : ((c.toNat : Int) == (n : Int)) = true) : c = UInt8.ofNat n := by
  apply UInt8.toNat_inj.1
  have e := beq_iff_eq.1 h
  have : (UInt8.ofNat n).toNat = n := by simp; omega
  omega
theorem cells_snoc (acc : List UInt8) (c : UInt8) : Lib.byteCells acc ++ [Value.int .u8 c.toNat] = Lib.byteCells (acc ++ [c]) := by
  simp [Lib.byteCells]
theorem cells_len (acc : List UInt8) : (Lib.byteCells acc).length = acc.length := by simp [Lib.byteCells]
theorem wb_any (b : Nat) (acc : List UInt8) (c : UInt8) (w : World) (h : IsB b acc w) (hlen : acc.length ≤ 1000000000000) (hb : b ≤ w.heap.size) :
    Calls Tryd.prog 35 #[.pointer (some ⟨b, 0, none⟩), .int .u8 c.toNat] w fun e w' => e = .returned .nilIface ∧ IsB b (acc ++ [c]) w' ∧ Below b w w' := by
  refine (build.WriteByte_any b b (Lib.byteCells acc) (c.toNat : Int) w h (by rw [cells_len]; omega) hb).mono fun e w' h2 => ⟨h2.1, ?_, h2.2.2⟩
  show Lib.IsBuilder _ _ b b (Lib.byteCells (acc ++ [c])) w'
  rw [← cells_snoc]
  exact .inr h2.2.1
theorem new_builder (w : World) : IsB w.heap.size [] (w.alloc (.cells #[.pointer none, .slice none 0 0] 62)) := by
  refine .inl ⟨Nat.le_refl _, .slice none 0 0, heap_alloc_new w _, World.ownsRow_nil _ _ _ _, ?_⟩
  simp [Value.ownBlock]
theorem ret_sn {a b : List UInt8} {n m : Nat} (h : (a, n) = (b, m)) : Ending.returned (.tuple #[.string ⟨a.toArray⟩, .int .i64 (n : Int)]) = .returned (.tuple #[.string ⟨b.toArray⟩, .int .i64 (m : Int)]) := by cases h; rfl
set_option maxHeartbeats 4000000 in
theorem text_any (s : ByteArray) (w : World) (hs : s.size ≤ 1000000000) (h1 : 1 ≤ s.size) :
    Calls Tryd.prog 21 #[.string s] w fun e w' => e = .returned (.tuple #[.string ⟨(textR s.data.toList).1.toArray⟩, .int .i64 (textR s.data.toList).2]) ∧ Below w.heap.size w w' := by
  have H0 : Hid (TxAt s 1 []) := by
    refine ⟨Nat.le_refl _, by simp, ?_⟩
    cases qtS false (s.data.toList.drop 1) <;> simp
  have HB0 := Lib.hid (new_builder w)
  have HBW : Hid (Below w.heap.size w (w.alloc (.cells #[.pointer none, .slice none 0 0] 62))) := (Below.refl _ _).alloc (Nat.le_refl _) _
  go_enter Tryd.func21, Tryd.ntmps21
  go_wp2_with fail
  go_loopw [5] (fun v wr => ∃ i acc, v = .int .i64 (i : Nat) ∧ i ≤ s.size ∧ TxAt s i acc ∧ IsB w.heap.size acc wr ∧ Below w.heap.size w wr) (fun v _ => s.size - (intOf v).toNat)
  case atStart => exact ⟨1, [], rfl, h1, H0.out, HB0.out, HBW.out⟩
  case round =>
    obtain ⟨i, acc, rfl, hi, htx, hisb, hbl⟩ := hrel
    generalize hB : w.heap.size = b at *
    have HB := Lib.hid hB
    have HTX := Lib.hid htx
    have HIS := Lib.hid hisb
    have HBL := Lib.hid hbl
    have hsz : b ≤ wr.heap.size := by rw [← HB.out]; exact hbl.size
    have hal := htx.2.1
    clear hB htx hisb hbl
    by_cases hlt : i < s.size
    · cases q34 : ((s[i].toNat : Int) == 34)
      · have n34 := Lib.hid (u8_ne (n := 34) (by decide) q34)
        cases q32 : decide ((s[i].toNat : Int) < 32)
        · have g32 : Hid (¬ s[i].toNat < 32) := by have := of_decide_eq_false q32; unfold Hid; omega
          cases q92 : ((s[i].toNat : Int) == 92)
          · have n92 := Lib.hid (u8_ne (n := 92) (by decide) q92)
            have HN := Lib.hid (HTX.out.step hlt n34.out g32.out n92.out)
            have HW := Lib.hid (wb_any b acc s[i] wr HIS.out (by omega) hsz)
            go_wp2_with fail
            (with_reducible refine HW.out.mono ?_); rintro e w2 ⟨rfl, hi2, hb2⟩
            have HI2 := Lib.hid hi2
            have HB2 := Lib.hid (HBL.out.trans hb2)
            clear hi2 hb2
            go_wp2_with fail
            go_roundw
            case rel => exact ⟨i + 1, _, by go_num, by omega, HN.out, HI2.out, HB2.out⟩
            case measure => simp [intOf]; omega
          · have e92 := Lib.hid (u8_eq (n := 92) (by decide) q92)
            by_cases hl2 : i + 1 < s.size
            · have HX : Hid (∀ W, Calls Tryd.prog 34 #[.string ⟨#[34, 92, 110, 116]⟩, .int .u8 (s[i + 1].toNat : Int)] W fun e w' => e = .returned (.int .i64 (Lib.indexByte [34, 92, 110, 116] s[i + 1])) ∧ W = w') := fun W => (Tryd.strings_IndexByte ⟨#[34, 92, 110, 116]⟩ (s[i + 1].toNat : Int) W).mono fun e w' h => ⟨h.1.trans (by rw [show ((s[i + 1].toNat : Int)).toNat.toUInt8 = s[i + 1] by simp]), h.2.symm⟩
              have HEN := Lib.hid (fun h => HTX.out.noesc hl2 e92.out h)
              have HES := Lib.hid (fun e h => HTX.out.esc (e := e) hl2 e92.out h)
              have hl3 : decide ((i : Int) + 1 < s.size) = true := decide_eq_true (by omega)
              rcases esc_cases s[i + 1] with ⟨he, hx⟩ | ⟨he, hx⟩ | ⟨he, hx⟩ | ⟨he, hx⟩ | ⟨he, hx⟩
              · rw [hx] at HX
                have HN := Lib.hid (HES.out _ he)
                have HW := Lib.hid (wb_any b acc 34 wr HIS.out (by omega) hsz)
                have HW : Hid (Calls Tryd.prog 35 #[.pointer (some ⟨b, 0, none⟩), .int .u8 34] wr fun e w' => e = .returned .nilIface ∧ IsB b (acc ++ [34]) w' ∧ Below b wr w') := HW
                clear he hx HEN HES
                go_wp2_with (go_at_call 34; refine (HX.out _).mono ?_; rintro e w' ⟨rfl, rfl⟩)
                (refine HW.out.mono ?_); rintro e w2 ⟨rfl, hi2, hb2⟩
                have HI2 := Lib.hid hi2
                have HB2 := Lib.hid (HBL.out.trans hb2)
                clear hi2 hb2
                go_wp2_with fail
                go_roundw
                case rel => exact ⟨i + 2, _, by go_num, by omega, HN.out, HI2.out, HB2.out⟩
                case measure => simp [intOf]; omega
              · rw [hx] at HX
                have HN := Lib.hid (HES.out _ he)
                have HW := Lib.hid (wb_any b acc 92 wr HIS.out (by omega) hsz)
                have HW : Hid (Calls Tryd.prog 35 #[.pointer (some ⟨b, 0, none⟩), .int .u8 92] wr fun e w' => e = .returned .nilIface ∧ IsB b (acc ++ [92]) w' ∧ Below b wr w') := HW
                clear he hx HEN HES
                go_wp2_with (go_at_call 34; refine (HX.out _).mono ?_; rintro e w' ⟨rfl, rfl⟩)
                (refine HW.out.mono ?_); rintro e w2 ⟨rfl, hi2, hb2⟩
                have HI2 := Lib.hid hi2
                have HB2 := Lib.hid (HBL.out.trans hb2)
                clear hi2 hb2
                go_wp2_with fail
                go_roundw
                case rel => exact ⟨i + 2, _, by go_num, by omega, HN.out, HI2.out, HB2.out⟩
                case measure => simp [intOf]; omega
              · rw [hx] at HX
                have HN := Lib.hid (HES.out _ he)
                have HW := Lib.hid (wb_any b acc 10 wr HIS.out (by omega) hsz)
                have HW : Hid (Calls Tryd.prog 35 #[.pointer (some ⟨b, 0, none⟩), .int .u8 10] wr fun e w' => e = .returned .nilIface ∧ IsB b (acc ++ [10]) w' ∧ Below b wr w') := HW
                clear he hx HEN HES
                go_wp2_with (go_at_call 34; refine (HX.out _).mono ?_; rintro e w' ⟨rfl, rfl⟩)
                (refine HW.out.mono ?_); rintro e w2 ⟨rfl, hi2, hb2⟩
                have HI2 := Lib.hid hi2
                have HB2 := Lib.hid (HBL.out.trans hb2)
                clear hi2 hb2
                go_wp2_with fail
                go_roundw
                case rel => exact ⟨i + 2, _, by go_num, by omega, HN.out, HI2.out, HB2.out⟩
                case measure => simp [intOf]; omega
              · rw [hx] at HX
                have HN := Lib.hid (HES.out _ he)
                have HW := Lib.hid (wb_any b acc 9 wr HIS.out (by omega) hsz)
                have HW : Hid (Calls Tryd.prog 35 #[.pointer (some ⟨b, 0, none⟩), .int .u8 9] wr fun e w' => e = .returned .nilIface ∧ IsB b (acc ++ [9]) w' ∧ Below b wr w') := HW
                clear he hx HEN HES
                go_wp2_with (go_at_call 34; refine (HX.out _).mono ?_; rintro e w' ⟨rfl, rfl⟩)
                (refine HW.out.mono ?_); rintro e w2 ⟨rfl, hi2, hb2⟩
                have HI2 := Lib.hid hi2
                have HB2 := Lib.hid (HBL.out.trans hb2)
                clear hi2 hb2
                go_wp2_with fail
                go_roundw
                case rel => exact ⟨i + 2, _, by go_num, by omega, HN.out, HI2.out, HB2.out⟩
                case measure => simp [intOf]; omega
              · rw [hx] at HX
                have HN := Lib.hid (HEN.out he)
                clear he hx HEN HES
                go_wp2_with (go_at_call 34; refine (HX.out _).mono ?_; rintro e w' ⟨rfl, rfl⟩)
                go_ret2
                exact ⟨by rw [HN.out]; rfl, by rw [HB.out]; exact HBL.out⟩
            · have HN := Lib.hid (HTX.out.end' hlt e92.out (by omega))
              have hl3 : decide ((i : Int) + 1 < s.size) = false := decide_eq_false (by omega)
              go_wp2_with fail
              go_ret2
              exact ⟨by rw [HN.out]; rfl, by rw [HB.out]; exact HBL.out⟩
        · have g32 : Hid (s[i].toNat < 32) := by have := of_decide_eq_true q32; unfold Hid; omega
          have HN := Lib.hid (HTX.out.low hlt n34.out g32.out)
          go_wp2_with fail
          go_ret2
          exact ⟨by rw [HN.out]; rfl, by rw [HB.out]; exact HBL.out⟩
      · have e34 := Lib.hid (u8_eq (n := 34) (by decide) q34)
        have HQ := Lib.hid (HTX.out.quote hlt e34.out)
        have HL := Lib.hid (fun W h => Tryd.Builder_Len b b (Lib.byteCells acc) W h)
        rw [cells_len] at HL
        by_cases hbig : 1024 < acc.length
        · have HQ2 : Hid (textR s.data.toList = ([], 0)) := by unfold Hid; rw [HQ.out, if_pos hbig]
          have hd : decide (1024 < (acc.length : Int)) = true := decide_eq_true (by omega)
          clear HQ
          go_wp2_with (go_at_call 32; refine (HL.out _ HIS.out).mono ?_; rintro e w' ⟨rfl, rfl⟩)
          go_ret2
          exact ⟨by rw [HQ2.out]; rfl, by rw [HB.out]; exact HBL.out⟩
        · have HQ2 : Hid (textR s.data.toList = (acc, i + 1)) := by unfold Hid; rw [HQ.out, if_neg hbig]
          have hd : decide (1024 < (acc.length : Int)) = false := decide_eq_false (by omega)
          have HSt := Lib.hid (Tryd.Builder_String_any b b acc wr HIS.out hsz)
          clear HQ
          go_wp2_with (go_at_call 32; refine (HL.out _ HIS.out).mono ?_; rintro e w' ⟨rfl, rfl⟩)
          (with_reducible refine HSt.out.mono ?_); rintro e w2 ⟨rfl, hb2⟩
          have HB2 := Lib.hid (HBL.out.trans hb2)
          clear hb2
          go_wp2_with fail
          go_ret2
          exact ⟨by rw [HQ2.out]; rfl, by rw [HB.out]; exact HB2.out⟩
    · have HN := Lib.hid (HTX.out.over (by omega))
      go_wp2_with fail
      go_ret2
      exact ⟨by rw [HN.out]; rfl, by rw [HB.out]; exact HBL.out⟩
end Go.Proofs.YtjanpaallealgaaDoor.lex
