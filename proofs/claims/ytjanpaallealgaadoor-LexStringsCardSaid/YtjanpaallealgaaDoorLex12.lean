/-
  Proved: that LexStrings says true, of every text. Conditions: as each theorem says.
-/
import Derived.Test.YtjanpaallealgaaDoorLex11
import Derived.Test.YtjanpaallealgaaDoorLexStrP
import Derived.Test.YtjanpaallealgaaDoorBytes
namespace Go.Proofs.YtjanpaallealgaaDoor.lex
open Go.RowKit
open heap
open flt (str_size)
open num (list_len drop_cons)
set_option linter.unusedVariables false
set_option maxRecDepth 100000

theorem conv_bytes (w : World) (l : List UInt8) : (convert 34 9 (.slice (some ⟨w.heap.size, 0, none⟩) l.length l.length)).run Tryd.prog (w.alloc (.cells (l.map row.byteV).toArray 5)) = .ok (.string ⟨l.toArray⟩) (w.alloc (.cells (l.map row.byteV).toArray 5)) := by
  refine row.RowIs.conv ⟨_, _, _, blk_new _ _, ?_, ?_, fun i hi => ?_⟩ _
  · simp
  · simp
  · simp [hi, List.getD]
theorem join_l (a b : List UInt8) : (⟨a.toArray⟩ : ByteArray) ++ ⟨b.toArray⟩ = ⟨(a ++ b).toArray⟩ := by
  apply ByteArray.ext
  simp [ByteArray.data_append]
theorem esc1_q {c : UInt8} (h : c = 34 ∨ c = 92) : esc1 c = [92, c] := by unfold esc1; rw [if_pos h]
theorem esc1_n : esc1 10 = [92, 110] := by decide
theorem esc1_t : esc1 9 = [92, 116] := by decide
theorem esc1_c {c : UInt8} (h : c ≠ 34) (h0 : c ≠ 92) (h1 : c ≠ 10) (h2 : c ≠ 9) : esc1 c = [c] ∧ okB c = decide (32 ≤ c.toNat) := by
  unfold esc1 okB
  rw [if_neg (fun e => e.elim h h0), if_neg h1, if_neg h2, decide_eq_false (fun e => e.elim h h0), beq_eq_false_iff_ne.2 h1, beq_eq_false_iff_ne.2 h2]
  exact ⟨rfl, by simp⟩
theorem take_snoc (s : ByteArray) (j : Nat) (h : j < s.size) : s.data.toList.take (j + 1) = s.data.toList.take j ++ [s[j]] := by
  have hl := list_len s
  rw [List.take_succ_eq_append_getElem (by omega)]
  rfl
theorem all_snoc (l : List UInt8) (c : UInt8) : (l ++ [c]).all okB = (l.all okB && okB c) := by simp
set_option maxHeartbeats 4000000 in
theorem lexStrings_any (s : ByteArray) (w : World) (hs : s.size ≤ maxLen) (htab : Lib.TabIs Tryd.prog w "strings.asciiSpace" .u8 Lib.asciiSpaceTab) :
    Calls Tryd.prog 4 #[.string s] w fun e w' => e = .returned (.bool true) ∧ Below w.heap.size w w' := by
  unfold maxLen at hs
  have HAW := Lib.hid (awake_any w htab)
  have hlen := list_len s
  have HT1 : Hid (∀ W, Below w.heap.size w W → s.size ≤ 2000 → fineB s.data.toList = false → Calls Tryd.prog 6 #[.string ⟨(strT s.data.toList).toArray⟩] W fun e w' => e = .returned (.tuple #[.slice none 0 0, .int .i64 1, .int .i64 1801]) ∧ Below W.heap.size W w') := by
    intro W hW h1 h2
    have hsc := (str_scan s.data.toList (by omega)).1 h2
    refine (Tokens_any ⟨(strT s.data.toList).toArray⟩ W (by rw [str_size]; have := strT_len s.data.toList; have := escL_len s.data.toList; omega) (tab_below htab hW)).mono ?_
    rintro e w' ⟨v, rfl, -, h4, hb⟩
    rw [show (⟨(strT s.data.toList).toArray⟩ : ByteArray).data.toList = strT s.data.toList from rfl, hsc] at h4 ⊢
    obtain rfl := h4 (by decide)
    exact ⟨rfl, hb⟩
  have HT2 : Hid (∀ W, Below w.heap.size w W → s.size ≤ 2000 → fineB s.data.toList = true → Calls Tryd.prog 6 #[.string ⟨(strT s.data.toList).toArray⟩] W fun e w' => ∃ g c, e = .returned (.tuple #[.slice (some ⟨g, 0, none⟩) 2 c, .int .i64 0, .int .i64 0]) ∧ 2 ≤ c ∧ c ≤ maxLen ∧
      w'.cell? ⟨g, 0, none⟩ = some (.int .i64 3) ∧ w'.cell? ⟨g, 1, none⟩ = some (.string s) ∧ w'.cell? ⟨g, 3, none⟩ = some (.int .i64 1) ∧ Below W.heap.size W w') := by
    intro W hW h1 h2
    have hsc := (str_scan s.data.toList (by omega)).2 h2
    refine (Tokens_any ⟨(strT s.data.toList).toArray⟩ W (by rw [str_size]; have := strT_len s.data.toList; have := escL_len s.data.toList; omega) (tab_below htab hW)).mono ?_
    rintro e w' ⟨v, rfl, h4, -, hb⟩
    rw [show (⟨(strT s.data.toList).toArray⟩ : ByteArray).data.toList = strT s.data.toList from rfl, hsc] at h4 ⊢
    rcases (h4 rfl).cells with ⟨-, h5⟩ | ⟨g, c, rfl, h6, h7, h8, h9, hc⟩
    · cases h5
    · have k := hc 0 _ rfl
      exact ⟨g, c, rfl, h8, h9, k.1, k.2.1, k.2.2.2, hb⟩
  clear htab
  go_enter Tryd.func4, Tryd.ntmps4
  go_wp2_with fail
  (with_reducible refine HAW.out.mono ?_); rintro e w1 ⟨rfl, hb1⟩
  have HB1 := Lib.hid hb1
  clear hb1 HAW
  obtain ⟨f0, hf0⟩ : ∃ f0, decide ((s.size : Int) ≤ 1024) = f0 := ⟨_, rfl⟩
  go_wp2_with fail
  go_loopw [3, 4, 5] (fun vo vf vi wr => ∃ (j : Nat) (A : List UInt8) (b : Bool), vo = .string ⟨A.toArray⟩ ∧ vf = .bool b ∧ vi = .int .i64 j ∧ j ≤ s.size ∧ j ≤ 2000 ∧ Hid (A = 34 :: escL (s.data.toList.take j) ∧ b = (f0 && (s.data.toList.take j).all okB) ∧ Below w.heap.size w wr)) (fun _ _ vi _ => s.size - (intOf vi).toNat)
  case atStart => exact ⟨0, [34], f0, rfl, rfl, rfl, Nat.zero_le _, by omega, ⟨by simp [escL], by simp, HB1.out⟩⟩
  case round =>
    obtain ⟨j, A, b, rfl, rfl, rfl, hj, hj2, hr⟩ := hrel
    obtain ⟨hA, hb, hbl⟩ := hr.out
    have HA := Lib.hid hA
    have HBb := Lib.hid hb
    have HBL := Lib.hid hbl
    have hwr : w.heap.size ≤ wr.heap.size := hbl.size
    have hal : A.length ≤ 4001 := by
      rw [hA, List.length_cons]
      have h1 := escL_len (s.data.toList.take j)
      rw [List.length_take] at h1; omega
    have zA := str_size A
    have zB := str_size (32 :: A)
    rw [List.length_cons] at zB
    clear hr hA hb hbl
    by_cases hl1 : j < s.size
    · have hd1 : decide ((j : Int) < s.size) = true := decide_eq_true (by omega)
      by_cases hl2 : j < 2000
      · have hd2 : decide ((j : Int) < 2000) = true := decide_eq_true (by omega)
        have HTS := Lib.hid (take_snoc s j hl1)
        have HNA : Hid (∀ E b', esc1 s[j] = E → (b && okB s[j]) = b' → A ++ E = 34 :: escL (s.data.toList.take (j + 1)) ∧ b' = (f0 && (s.data.toList.take (j + 1)).all okB)) := by
          intro E b' hE hb'
          rw [HTS.out, escL_snoc, hE, HA.out, all_snoc, ← hb', HBb.out, Bool.and_assoc]
          exact ⟨rfl, rfl⟩
        cases q34 : ((s[j].toNat : Int) == 34)
        · cases q92 : ((s[j].toNat : Int) == 92)
          · cases q10 : ((s[j].toNat : Int) == 10)
            · cases q9 : ((s[j].toNat : Int) == 9)
              · have hE := esc1_c (u8_ne (n := 34) (by decide) q34) (u8_ne (n := 92) (by decide) q92) (u8_ne (n := 10) (by decide) q10) (u8_ne (n := 9) (by decide) q9)
                obtain ⟨b9, hb9⟩ : ∃ b9, decide ((32 : Int) ≤ (s[j].toNat : Int)) = b9 := ⟨_, rfl⟩
                have hok : okB s[j] = b9 := by
                  rw [hE.2, ← hb9]
                  by_cases h : 32 ≤ s[j].toNat
                  · rw [decide_eq_true h, decide_eq_true (by omega)]
                  · rw [decide_eq_false h, decide_eq_false (by omega)]
                have HN := Lib.hid (HNA.out _ (b && b9) hE.1 (by rw [hok]))
                have hcv : (convert 34 9 (.slice (some ⟨wr.heap.size, 0, none⟩) 1 1)).run Tryd.prog (wr.alloc (.cells #[.int .u8 (s[j].toNat : Int)] 5)) = .ok (.string ⟨#[s[j]]⟩) (wr.alloc (.cells #[.int .u8 (s[j].toNat : Int)] 5)) := conv_bytes wr [s[j]]
                have hjo : (⟨A.toArray⟩ : ByteArray) ++ ⟨#[s[j]]⟩ = ⟨(A ++ [s[j]]).toArray⟩ := join_l A [s[j]]
                clear hE hok HNA HTS
                cases b with
                | true =>
                  go_wp2_with fail
                  go_roundw
                  case rel => exact ⟨j + 1, _, _, rfl, rfl, by go_num, by omega, by omega, ⟨HN.out.1, HN.out.2, HBL.out.alloc hwr _⟩⟩
                  case measure => simp [intOf]; omega
                | false =>
                  go_wp2_with fail
                  go_roundw
                  case rel => exact ⟨j + 1, _, _, rfl, rfl, by go_num, by omega, by omega, ⟨HN.out.1, HN.out.2, HBL.out.alloc hwr _⟩⟩
                  case measure => simp [intOf]; omega
              · have e9 := u8_eq (n := 9) (by decide) q9
                have HN := Lib.hid (HNA.out [92, 116] b (by rw [e9]; decide) (by rw [e9]; simp [okB]))
                have hcv : (convert 34 9 (.slice (some ⟨wr.heap.size, 0, none⟩) 2 2)).run Tryd.prog (wr.alloc (.cells #[.int .u8 92, .int .u8 116] 5)) = .ok (.string ⟨#[92, 116]⟩) (wr.alloc (.cells #[.int .u8 92, .int .u8 116] 5)) := conv_bytes wr [92, 116]
                have hjo : (⟨A.toArray⟩ : ByteArray) ++ ⟨#[92, 116]⟩ = ⟨(A ++ [92, 116]).toArray⟩ := join_l A [92, 116]
                clear HNA HTS e9
                go_wp2_with fail
                go_roundw
                case rel => exact ⟨j + 1, _, _, rfl, rfl, by go_num, by omega, by omega, ⟨HN.out.1, HN.out.2, HBL.out.alloc hwr _⟩⟩
                case measure => simp [intOf]; omega
            · have e10 := u8_eq (n := 10) (by decide) q10
              have HN := Lib.hid (HNA.out [92, 110] b (by rw [e10]; decide) (by rw [e10]; simp [okB]))
              have hcv : (convert 34 9 (.slice (some ⟨wr.heap.size, 0, none⟩) 2 2)).run Tryd.prog (wr.alloc (.cells #[.int .u8 92, .int .u8 110] 5)) = .ok (.string ⟨#[92, 110]⟩) (wr.alloc (.cells #[.int .u8 92, .int .u8 110] 5)) := conv_bytes wr [92, 110]
              have hjo : (⟨A.toArray⟩ : ByteArray) ++ ⟨#[92, 110]⟩ = ⟨(A ++ [92, 110]).toArray⟩ := join_l A [92, 110]
              clear HNA HTS e10
              go_wp2_with fail
              go_roundw
              case rel => exact ⟨j + 1, _, _, rfl, rfl, by go_num, by omega, by omega, ⟨HN.out.1, HN.out.2, HBL.out.alloc hwr _⟩⟩
              case measure => simp [intOf]; omega
          · have e92 := u8_eq (n := 92) (by decide) q92
            have HN := Lib.hid (HNA.out [92, s[j]] b (by rw [e92]; decide) (by rw [e92]; simp [okB]))
            have hcv : (convert 34 9 (.slice (some ⟨wr.heap.size, 0, none⟩) 2 2)).run Tryd.prog (wr.alloc (.cells #[.int .u8 92, .int .u8 (s[j].toNat : Int)] 5)) = .ok (.string ⟨#[92, s[j]]⟩) (wr.alloc (.cells #[.int .u8 92, .int .u8 (s[j].toNat : Int)] 5)) := conv_bytes wr [92, s[j]]
            have hjo : (⟨A.toArray⟩ : ByteArray) ++ ⟨#[92, s[j]]⟩ = ⟨(A ++ [92, s[j]]).toArray⟩ := join_l A [92, s[j]]
            clear HNA HTS e92
            go_wp2_with fail
            go_roundw
            case rel => exact ⟨j + 1, _, _, rfl, rfl, by go_num, by omega, by omega, ⟨HN.out.1, HN.out.2, HBL.out.alloc hwr _⟩⟩
            case measure => simp [intOf]; omega
        · have e34 := u8_eq (n := 34) (by decide) q34
          have HN := Lib.hid (HNA.out [92, s[j]] b (by rw [e34]; decide) (by rw [e34]; simp [okB]))
          have hcv : (convert 34 9 (.slice (some ⟨wr.heap.size, 0, none⟩) 2 2)).run Tryd.prog (wr.alloc (.cells #[.int .u8 92, .int .u8 (s[j].toNat : Int)] 5)) = .ok (.string ⟨#[92, s[j]]⟩) (wr.alloc (.cells #[.int .u8 92, .int .u8 (s[j].toNat : Int)] 5)) := conv_bytes wr [92, s[j]]
          have hjo : (⟨A.toArray⟩ : ByteArray) ++ ⟨#[92, s[j]]⟩ = ⟨(A ++ [92, s[j]]).toArray⟩ := join_l A [92, s[j]]
          clear HNA HTS e34
          go_wp2_with fail
          go_roundw
          case rel => exact ⟨j + 1, _, _, rfl, rfl, by go_num, by omega, by omega, ⟨HN.out.1, HN.out.2, HBL.out.alloc hwr _⟩⟩
          case measure => simp [intOf]; omega
      · have hd2 : decide ((j : Int) < 2000) = false := decide_eq_false (by omega)
        have hd3 : decide (2000 < (s.size : Int)) = true := decide_eq_true (by omega)
        go_wp2_with fail
        go_ret
        exact ⟨rfl, HBL.out⟩
    · have hd1 : decide ((j : Int) < s.size) = false := decide_eq_false (by omega)
      have hd3 : decide (2000 < (s.size : Int)) = false := decide_eq_false (by omega)
      have hjs : j = s.size := by omega
      have htk : s.data.toList.take j = s.data.toList := List.take_of_length_le (by omega)
      have hfb : b = fineB s.data.toList := by
        rw [HBb.out, htk, ← hf0]
        unfold fineB
        congr 1
        by_cases h : s.data.toList.length ≤ 1024
        · rw [decide_eq_true h, decide_eq_true (by omega)]
        · rw [decide_eq_false h, decide_eq_false (by omega)]
      have hjo : (⟨#[32]⟩ : ByteArray) ++ ⟨A.toArray⟩ = ⟨(32 :: A).toArray⟩ := join_l [32] A
      have hjp : (⟨(32 :: A).toArray⟩ : ByteArray) ++ ⟨#[34]⟩ = ⟨(strT s.data.toList).toArray⟩ := by
        rw [HA.out, htk]
        exact join_l (32 :: 34 :: escL s.data.toList) [34]
      cases b with
      | false =>
        have HC := Lib.hid (HT1.out wr HBL.out (by omega) hfb.symm)
        clear htk hfb HT1 HT2
        go_wp2_with fail
        refine HC.out.mono ?_; rintro e w2 ⟨rfl, hb2⟩
        have HB2 := Lib.hid (HBL.out.trans (hb2.mono hwr))
        clear hb2
        go_wp2_with (go_at_call 7; refine (Num_any _ _).mono ?_; rintro e w' ⟨rfl, rfl⟩)
        all_goals
          go_ret
          exact ⟨rfl, HB2.out⟩
      | true =>
        have HC := Lib.hid (HT2.out wr HBL.out (by omega) hfb.symm)
        clear htk hfb HT1 HT2
        go_wp2_with fail
        refine HC.out.mono ?_; rintro e w2 ⟨g, c, rfl, h6, h7, k0, k1, k3, hb2⟩
        have HB2 := Lib.hid (HBL.out.trans (hb2.mono hwr))
        have hg : g < w2.heap.size := World.block_lt_of_cell? w2 ⟨g, 0, none⟩ k0
        unfold maxLen at h7
        clear hb2
        go_wp2_with (go_at_call 7; refine (Num_any _ _).mono ?_; rintro e w' ⟨rfl, rfl⟩)
        all_goals
          go_ret
          exact ⟨rfl, HB2.out⟩
end Go.Proofs.YtjanpaallealgaaDoor.lex
