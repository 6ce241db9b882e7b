/-
  Proved: what the small functions of the document's scanner return. Conditions: as each theorem says.
  Proved: what the document's quoted returns (written by wip/bin/lex14.py). Conditions: as each theorem says.
  Proved: what the document's next returns (written by wip/bin/lex15.py). Conditions: as each theorem says.
  Proved: what the document's next and Scan and Tokens return (written by wip/bin/lex16.py). Conditions: as each theorem says.
  Proved: what the document's Scan and Tokens return, of every text. Conditions: as each theorem says.
  Proved: that awake of the lexer's laws says true. Conditions: as each theorem says.
  Proved: which guarded operations of a drawn region are wanted. Conditions: as each theorem says. No program is in sight.
  Proved: that LexTexts says true, of every text. Conditions: as each theorem says.
  Proved: that LexTexts says true, of every text. Conditions: as each theorem says.
-/
import Derived.Test.YtjanpaallealgaaGreatDoorLex4
import Derived.Test.YtjanpaallealgaaGreatDoorLex3
import Derived.Test.YtjanpaallealgaaGreatDoorLex10
import Derived.Test.YtjanpaallealgaaGreatDoorFltTexts
import Derived.Deep.CutRange
import Derived.Deep.CutBlock
import Derived.Test.YtjanpaallealgaaGreatDoorReg
import Derived.Test.YtjanpaallealgaaGreatDoorFlt12
namespace Go.Proofs.YtjanpaallealgaaGreatDoor.lex
open Go.RowKit
open flt (isD)
open heap
open num (list_len drop_cons)
set_option linter.unusedVariables false
set_option linter.unusedSimpArgs false
set_option maxRecDepth 100000

theorem rl_eq (c : UInt8) : letB c = ((decide (97 ≤ (c.toNat : Int)) && decide ((c.toNat : Int) ≤ 122)) || (decide (65 ≤ (c.toNat : Int)) && decide ((c.toNat : Int) ≤ 90)) || ((c.toNat : Int) == 95)) :=
  all_u8 (q := fun c => ((decide (97 ≤ (c.toNat : Int)) && decide ((c.toNat : Int) ≤ 122)) || (decide (65 ≤ (c.toNat : Int)) && decide ((c.toNat : Int) ≤ 90)) || ((c.toNat : Int) == 95))) (by decide +kernel) c
theorem rd_eq (c : UInt8) : isD c = (decide (48 ≤ (c.toNat : Int)) && decide ((c.toNat : Int) ≤ 57)) :=
  all_u8 (q := fun c => (decide (48 ≤ (c.toNat : Int)) && decide ((c.toNat : Int) ≤ 57))) (by decide +kernel) c
theorem rlet_any (c : UInt8) (w : World) : Calls Tryz.prog 44 #[.int .u8 c.toNat] w fun e w' => e = .returned (.bool (letB c)) ∧ w = w' := by
  have HE := Lib.hid (rl_eq c)
  cases h1 : decide (97 ≤ (c.toNat : Int)) <;> cases h2 : decide ((c.toNat : Int) ≤ 122) <;> cases h3 : decide (65 ≤ (c.toNat : Int)) <;> cases h4 : decide ((c.toNat : Int) ≤ 90) <;> cases h5 : ((c.toNat : Int) == 95) <;> rw [h1, h2, h3, h4, h5] at HE <;>
  · go_enter Tryz.func44, Tryz.ntmps44
    go_wp2_with fail
    go_ret
    exact ⟨by rw [HE.out]; rfl, rfl⟩
theorem rdig_any (c : UInt8) (w : World) : Calls Tryz.prog 45 #[.int .u8 c.toNat] w fun e w' => e = .returned (.bool (isD c)) ∧ w = w' := by
  have HE := Lib.hid (rd_eq c)
  cases h1 : decide (48 ≤ (c.toNat : Int)) <;> cases h2 : decide ((c.toNat : Int) ≤ 57) <;> rw [h1, h2] at HE <;>
  · go_enter Tryz.func45, Tryz.ntmps45
    go_wp2_with fail
    go_ret
    exact ⟨by rw [HE.out]; rfl, rfl⟩
theorem skT (s : ByteArray) (q : Nat) (h : q < s.size) (he : s[q] = 35) : skp false (s.data.toList.drop q) = skp true (s.data.toList.drop q) := by
  rw [drop_cons s q h, he, skp, if_neg (by decide), if_pos rfl, skp, if_neg (by decide)]
theorem skT_no (s : ByteArray) (q : Nat) (h : q < s.size) (he : s[q] ≠ 10) : skp true (s.data.toList.drop q) = skp true (s.data.toList.drop (q + 1)) + 1 := by
  rw [drop_cons s q h, skp, if_neg he]
theorem skT_nl (s : ByteArray) (q : Nat) (h : q < s.size) (he : s[q] = 10) : skp true (s.data.toList.drop q) = skp false (s.data.toList.drop q) := by
  rw [drop_cons s q h, he]; simp [skp, blankB]
theorem skT_end (b : Bool) (s : ByteArray) (q : Nat) (h : s.size ≤ q) : skp b (s.data.toList.drop q) = 0 := by
  rw [List.drop_eq_nil_of_le (by rw [list_len]; exact h), skp]
theorem skF_yes (s : ByteArray) (q : Nat) (h : q < s.size) (he : blankB s[q] = true) : skp false (s.data.toList.drop q) = skp false (s.data.toList.drop (q + 1)) + 1 := by
  rw [drop_cons s q h, skp, if_pos he]
theorem skF_no (s : ByteArray) (q : Nat) (h : q < s.size) (he : blankB s[q] = false) (h2 : s[q] ≠ 35) : skp false (s.data.toList.drop q) = 0 := by
  rw [drop_cons s q h, skp, if_neg (by rw [he]; exact Bool.false_ne_true), if_neg h2]
set_option maxHeartbeats 1000000 in
theorem rblanks_any (s : ByteArray) (a : Nat) (w : World) (ha : a ≤ s.size) (hs : s.size ≤ 1000000000000000001) :
    Calls Tryz.prog 26 #[.string s, .int .i64 a] w fun e w' => e = .returned (.int .i64 ((a + skp false (s.data.toList.drop a) : Nat) : Int)) ∧ w = w' := by
  go_enter Tryz.func26, Tryz.ntmps26
  go_wp2_with fail
  go_loop [1] (fun i => ∃ q : Nat, i = .int .i64 q ∧ q ≤ s.size ∧ Hid (a + skp false (s.data.toList.drop a) = q + skp false (s.data.toList.drop q))) (fun i => s.size - (intOf i).toNat)
  case atStart => exact ⟨a, rfl, ha, rfl⟩
  case round =>
    obtain ⟨q, rfl, hq, HQ⟩ := hrel
    by_cases hlt : q < s.size
    · have HY := Lib.hid (skF_yes s q hlt)
      have HB : Hid (blankB s[q] = iB (s[q].toNat : Int)) := blank_eq s[q]
      unfold iB at HB
      cases h1 : ((s[q].toNat : Int) == 32) with
      | true =>
        have HN : Hid (a + skp false (s.data.toList.drop a) = (q + 1) + skp false (s.data.toList.drop (q + 1))) := by
          unfold Hid; rw [HQ.out, HY.out (by rw [HB.out, h1]; rfl)]; omega
        go_wp2_with fail
        go_round
        case rel => exact ⟨q + 1, by go_num, by omega, HN⟩
        case measure => simp [intOf]; omega
      | false =>
        cases h2 : ((s[q].toNat : Int) == 9) with
        | true =>
          have HN : Hid (a + skp false (s.data.toList.drop a) = (q + 1) + skp false (s.data.toList.drop (q + 1))) := by
            unfold Hid; rw [HQ.out, HY.out (by rw [HB.out, h1, h2]; rfl)]; omega
          go_wp2_with fail
          go_round
          case rel => exact ⟨q + 1, by go_num, by omega, HN⟩
          case measure => simp [intOf]; omega
        | false =>
          cases h3 : ((s[q].toNat : Int) == 10) with
          | true =>
            have HN : Hid (a + skp false (s.data.toList.drop a) = (q + 1) + skp false (s.data.toList.drop (q + 1))) := by
              unfold Hid; rw [HQ.out, HY.out (by rw [HB.out, h1, h2, h3]; rfl)]; omega
            go_wp2_with fail
            go_round
            case rel => exact ⟨q + 1, by go_num, by omega, HN⟩
            case measure => simp [intOf]; omega
          | false =>
            cases h4 : ((s[q].toNat : Int) == 13) with
            | true =>
              have HN : Hid (a + skp false (s.data.toList.drop a) = (q + 1) + skp false (s.data.toList.drop (q + 1))) := by
                unfold Hid; rw [HQ.out, HY.out (by rw [HB.out, h1, h2, h3, h4]; rfl)]; omega
              go_wp2_with fail
              go_round
              case rel => exact ⟨q + 1, by go_num, by omega, HN⟩
              case measure => simp [intOf]; omega
            | false =>
              have hbf : blankB s[q] = false := by rw [HB.out, h1, h2, h3, h4]; rfl
              cases h5 : ((s[q].toNat : Int) == 35) with
              | false =>
                have HN : Hid (a + skp false (s.data.toList.drop a) = q) := by
                  unfold Hid; rw [HQ.out, skF_no s q hlt hbf (u8_ne (n := 35) (by decide) h5)]; rfl
                clear hbf HB HY
                go_wp2_with fail
                go_ret
                exact ⟨ret_i (by have := HN.out; omega), rfl⟩
              | true =>
                have HT : Hid (a + skp false (s.data.toList.drop a) = q + skp true (s.data.toList.drop q)) := by
                  unfold Hid; rw [HQ.out, skT s q hlt (u8_eq (n := 35) (by decide) h5)]
                have HNE : Hid (s[q] ≠ 10) := u8_ne (n := 10) (by decide) h3
                clear hbf HB HY
                go_wp2_with fail
                go_loop [1] (fun i => ∃ p : Nat, i = .int .i64 p ∧ q ≤ p ∧ p ≤ s.size ∧ Hid (a + skp false (s.data.toList.drop a) = p + skp true (s.data.toList.drop p))) (fun i => s.size - (intOf i).toNat)
                case atStart => exact ⟨q, rfl, Nat.le_refl _, hq, HT⟩
                case round =>
                  obtain ⟨p, rfl, hqp, hp, HP⟩ := hrel
                  by_cases hl2 : p < s.size
                  · cases h6 : ((s[p].toNat : Int) == 10) with
                    | false =>
                      have h7 : ((s[p].toNat : Int) != 10) = true := by rw [bne, h6]; rfl
                      have HN : Hid (a + skp false (s.data.toList.drop a) = (p + 1) + skp true (s.data.toList.drop (p + 1))) := by
                        unfold Hid; rw [HP.out, skT_no s p hl2 (u8_ne (n := 10) (by decide) h6)]; omega
                      go_wp2_with fail
                      go_round
                      case rel => exact ⟨p + 1, by go_num, by omega, by omega, HN⟩
                      case measure => simp [intOf]; omega
                    | true =>
                      have h7 : ((s[p].toNat : Int) != 10) = false := by rw [bne, h6]; rfl
                      have HN : Hid (a + skp false (s.data.toList.drop a) = p + skp false (s.data.toList.drop p)) := by
                        unfold Hid; rw [HP.out, skT_nl s p hl2 (u8_eq (n := 10) (by decide) h6)]
                      have hne : q ≠ p := by
                        intro e; subst e
                        exact HNE.out (u8_eq (n := 10) (by decide) h6)
                      go_wp2_with fail
                      go_round
                      case rel => exact ⟨p, by go_num, by omega, HN⟩
                      case measure => simp [intOf]; omega
                  · have HN : Hid (a + skp false (s.data.toList.drop a) = p + skp false (s.data.toList.drop p)) := by
                      unfold Hid; rw [HP.out, skT_end true s p (by omega), skT_end false s p (by omega)]
                    go_wp2_with fail
                    go_round
                    case rel => exact ⟨p, by go_num, by omega, HN⟩
                    case measure => simp [intOf]; omega
    · have HN : Hid (a + skp false (s.data.toList.drop a) = q) := by
        unfold Hid; rw [HQ.out, skT_end false s q (by omega)]; rfl
      go_wp2_with fail
      go_ret
      exact ⟨ret_i (by have := HN.out; omega), rfl⟩
end Go.Proofs.YtjanpaallealgaaGreatDoor.lex

namespace Go.Proofs.YtjanpaallealgaaGreatDoor.lex
open Go.RowKit
open flt (isD str_size)
open heap
open num (list_len drop_cons infoU8)
set_option linter.unusedVariables false
set_option linter.unusedSimpArgs false
set_option maxRecDepth 100000
attribute [local go_sem] run_store_float

/-- A row of bytes of the call's own. -/
def bV (c : UInt8) : Value := .int .u8 (c.toNat : Int)
def BRow (w : World) (base : Nat) (v : Value) (l : List UInt8) : Prop := w.ownsRow base 5 1 v l.length (l.map bV)
theorem BRow.slice {w : World} {base : Nat} {v : Value} {l : List UInt8} (h : BRow w base v l) : ∃ a c, v = .slice a l.length c := by
  obtain ⟨_, ⟨h, h0⟩ | ⟨_, _, _, h, _⟩⟩ := h
  · exact ⟨none, 0, by rw [h, h0]⟩
  · exact ⟨_, _, h⟩
theorem brow_kept {w w' : World} {base : Nat} {v : Value} {l : List UInt8} (h : BRow w base v l) (hk : ∀ g o, v.ownBlock = some g → w.heap[g]? = some o → w'.heap[g]? = some o) : BRow w' base v l := by
  obtain ⟨hl, h1 | ⟨g, c, cur, rfl, h2, h3, h4⟩⟩ := h
  · exact ⟨hl, .inl h1⟩
  · exact ⟨hl, .inr ⟨g, c, cur, rfl, h2, hk g _ rfl h3, h4⟩⟩
theorem BRow.below {w w' : World} {base : Nat} {v : Value} {l : List UInt8} (h : BRow w base v l) (hb : Below w.heap.size w w') : BRow w' base v l := brow_kept h (fun g o hg ho => blk_below ho hb)
theorem BRow.conv {w : World} {base : Nat} {v : Value} {l : List UInt8} (h : BRow w base v l) : (convert 67 9 v).run Tryz.prog w = .ok (.string ⟨l.toArray⟩) w := by
  have hcl := @World.ownsRow.cells _ _ _ _ _ _ _ h
  obtain ⟨hl, ⟨hv, h0⟩ | ⟨g, c, cur, hv, h2, h3, h4, h5, h6⟩⟩ := h
  · obtain rfl : l = [] := List.length_eq_zero_iff.1 h0
    rw [hv]
    exact run_convert_bytes_nil w 67 5 Tryz.underlying67 Tryz.underlying5 0 0 9 Tryz.underlying9
  · rw [hv]
    refine run_convert_bytes_back w 67 9 5 ⟨g, 0, none⟩ c l Tryz.underlying67 Tryz.underlying5 Tryz.underlying9 (fun j hj => ?_)
    have := hcl (g := g) (by rw [hv]; rfl) j (bV (l.getD j 0)) (by
      rw [List.getElem?_map, List.getD_eq_getElem?_getD, List.getElem?_eq_getElem hj]; rfl)
    simpa [bV, hj] using this
theorem app_byte (B g : Nat) (v : Value) (l : List UInt8) (c : UInt8) (w : World) (h : BRow w B v l) (hg : w.heap[g]? = some (.cells #[bV c] 5 (0, 0))) (hB : B ≤ w.heap.size) (hn : l.length ≤ 1000000000000) :
    ∃ v2 w2, (Builtin.append_ #[67, 67] 67 #[v, .slice (some ⟨g, 0, none⟩) 1 1]).run Tryz.prog w = .ok v2 w2 ∧ BRow w2 B v2 (l ++ [c]) ∧ Turned v.ownBlock.toList w w2 := by
  obtain ⟨i0, hi, hz0, hz1, hz2⟩ := info_parts infoU8
  obtain ⟨v2, w2, hrun, hown, hgr, _⟩ := run_append_own (P := Tryz.prog) w B 67 67 5 i0 _ 1 1 Tryz.underlying67 hi hz0 hz1 hz2 rfl (by decide) v l.length _ h ⟨g, 0, none⟩ 1 1 [bV c] rfl (fun j u hu => by rw [add0, blk_cell hg]; simpa using hu) (by simp [bV, Value.oneCell']) (by unfold maxLen; omega) (by omega) hB
  refine ⟨v2, w2, hrun, ?_, ⟨hgr.os, hgr.tape, hgr.output, hgr.size, fun b hb hn => hgr.block b hb (fun e => hn (by simp [← e]))⟩⟩
  unfold BRow
  rw [List.length_append, List.map_append]
  exact hown
theorem round_byte (w wr : World) (v : Value) (acc : List UInt8) (c : UInt8) (hT : TkAt wr w.heap.size 0 ⟨#[]⟩ 0 0) (hrow : BRow wr (w.heap.size + 1) v acc) (hbl : Below w.heap.size w wr) (hn : acc.length ≤ 1000000000000) :
    ∃ v2 w5, (Builtin.append_ #[67, 67] 67 #[v, .slice (some ⟨wr.heap.size, 0, none⟩) 1 1]).run Tryz.prog (wr.alloc (.cells #[bV c] 5)) = .ok v2 w5 ∧ BRow w5 (w.heap.size + 1) v2 (acc ++ [c]) ∧
      TkAt w5 w.heap.size 0 ⟨#[]⟩ 0 0 ∧ Below w.heap.size w w5 := by
  have hlt : w.heap.size < wr.heap.size := blk_lt hT
  have b1 : Below wr.heap.size wr (wr.alloc (.cells #[bV c] 5)) := (Below.refl _ _).alloc (Nat.le_refl _) _
  have hown : ∀ g ∈ v.ownBlock.toList, w.heap.size + 1 ≤ g := fun g hg => (World.ownsRow.lt hrow g (by simpa using hg)).1
  obtain ⟨v2, w5, h1, h2, h3⟩ := app_byte (w.heap.size + 1) wr.heap.size v acc c _ (hrow.below b1) (blk_new _ _) (by simp; omega) hn
  refine ⟨v2, w5, h1, h2, h3.kept (hT.below b1) (fun hm => by have := hown _ hm; omega), ?_⟩
  exact (hbl.trans (b1.mono (by omega))).trans (h3.below (by simp; omega) (fun g hg => by have := hown g hg; omega))
def QtAt (s : ByteArray) (a q : Nat) (acc : List UInt8) : Prop := a + 1 ≤ q ∧ acc.length ≤ q ∧ qtS false (s.data.toList.drop (a + 1)) = (qtS false (s.data.toList.drop q)).map fun x => (acc ++ x.1, q - (a + 1) + x.2)
theorem QtAt.quote {s : ByteArray} {a i : Nat} {acc : List UInt8} (h : QtAt s a i acc) (hi : i < s.size) (hc : s[i] = 34) : qtS false (s.data.toList.drop (a + 1)) = some (acc, i - a) := by
  rw [h.2.2, drop_cons s i hi, hc]
  have e : qtS false (34 :: s.data.toList.drop (i + 1)) = some ([], 1) := by simp [qtS]
  rw [e]
  have := h.1
  simp only [Option.map_some, List.append_nil]
  rw [show i - (a + 1) + 1 = i - a by omega]
theorem QtAt.nil' {s : ByteArray} {a i : Nat} {acc : List UInt8} (h : QtAt s a i acc) (hn : qtS false (s.data.toList.drop i) = none) : qtS false (s.data.toList.drop (a + 1)) = none := by rw [h.2.2, hn]; rfl
theorem QtAt.low {s : ByteArray} {a i : Nat} {acc : List UInt8} (h : QtAt s a i acc) (hi : i < s.size) (h1 : s[i] ≠ 34) (hc : s[i].toNat < 32) : qtS false (s.data.toList.drop (a + 1)) = none := by
  refine h.nil' ?_
  rw [drop_cons s i hi, qtS, if_neg h1, if_pos hc]
theorem QtAt.over {s : ByteArray} {a i : Nat} {acc : List UInt8} (h : QtAt s a i acc) (hi : s.size ≤ i) : qtS false (s.data.toList.drop (a + 1)) = none := by
  refine h.nil' ?_
  rw [List.drop_eq_nil_of_le (by rw [list_len]; exact hi)]; rfl
theorem QtAt.step {s : ByteArray} {a i : Nat} {acc : List UInt8} (h : QtAt s a i acc) (hi : i < s.size) (h1 : s[i] ≠ 34) (hc : ¬ s[i].toNat < 32) (h2 : s[i] ≠ 92) : QtAt s a (i + 1) (acc ++ [s[i]]) := by
  have := h.1
  refine ⟨by omega, by have := h.2.1; simp; omega, ?_⟩
  rw [h.2.2, drop_cons s i hi, qtS, if_neg h1, if_neg hc, if_neg h2, Option.map_map]
  congr 1
  funext x
  simp only [Function.comp, List.append_assoc, List.singleton_append, Prod.mk.injEq, true_and]
  omega
theorem QtAt.end' {s : ByteArray} {a i : Nat} {acc : List UInt8} (h : QtAt s a i acc) (hi : i < s.size) (h2 : s[i] = 92) (he : s.size ≤ i + 1) : qtS false (s.data.toList.drop (a + 1)) = none := by
  refine h.nil' ?_
  rw [drop_cons s i hi, h2, List.drop_eq_nil_of_le (by rw [list_len]; exact he)]
  decide
theorem QtAt.esc {s : ByteArray} {a i : Nat} {acc : List UInt8} {e : UInt8} (h : QtAt s a i acc) (hi : i + 1 < s.size) (h2 : s[i] = 92) (he : escB s[i + 1] = some e) : QtAt s a (i + 2) (acc ++ [e]) := by
  have := h.1
  refine ⟨by omega, by have := h.2.1; simp; omega, ?_⟩
  rw [h.2.2, drop_cons s i (by omega), h2, drop_cons s (i + 1) hi]
  have e1 : ∀ r : List UInt8, qtS false (92 :: s[i + 1] :: r) = (qtS false r).map fun x => (e :: x.1, x.2 + 2) := by
    intro r
    rw [qtS, if_neg (by decide), if_neg (by decide), if_pos rfl, qtS, he]
    simp only [Option.map_map]
    rfl
  rw [e1, Option.map_map]
  congr 1
  funext x
  simp only [Function.comp, List.append_assoc, List.singleton_append, Prod.mk.injEq, true_and]
  omega
theorem QtAt.noesc {s : ByteArray} {a i : Nat} {acc : List UInt8} (h : QtAt s a i acc) (hi : i + 1 < s.size) (h2 : s[i] = 92) (he : escB s[i + 1] = none) : qtS false (s.data.toList.drop (a + 1)) = none := by
  refine h.nil' ?_
  rw [drop_cons s i (by omega), h2, drop_cons s (i + 1) hi, qtS, if_neg (by decide), if_neg (by decide), if_pos rfl, qtS, he]
  rfl
abbrev badV (e : Int) : Value := .tuple #[tkV 0 ⟨#[]⟩ 0 0, .int .i64 0, .int .i64 e]
/-- What quoted returns. -/
def quV (s : ByteArray) (a : Nat) : Value := match qtS false (s.data.toList.drop (a + 1)) with
  | none => badV 1801
  | some x => if 1024 < x.1.length then badV 1801 else .tuple #[tkV 3 ⟨x.1.toArray⟩ 0 a, .int .i64 ((a + 1 + x.2 : Nat) : Int), .int .i64 0]
theorem quV_none {s : ByteArray} {a : Nat} (h : qtS false (s.data.toList.drop (a + 1)) = none) : quV s a = badV 1801 := by unfold quV; rw [h]
abbrev tkW (w : World) (b : Nat) (k : Int) (t : ByteArray) (x a : Nat) : World := (((w.setCell ⟨b, 0, none⟩ (.int .i64 k)).setCell ⟨b, 1, none⟩ (.string t)).setCell ⟨b, 2, none⟩ (.float .f64 x)).setCell ⟨b, 3, none⟩ (.int .i64 a)
theorem tkW_below {w0 w : World} (h : Below w0.heap.size w0 w) (k : Int) (t : ByteArray) (x a : Nat) : Below w0.heap.size w0 (tkW w w0.heap.size k t x a) := (((h.setCell (Nat.le_refl _) _).setCell (Nat.le_refl _) _).setCell (Nat.le_refl _) _).setCell (Nat.le_refl _) _
set_option maxHeartbeats 4000000 in
theorem quoted_any (s : ByteArray) (a : Nat) (w : World) (ha : a < s.size) (hs : s.size ≤ 1000000000) :
    Calls Tryz.prog 47 #[.string s, .int .i64 a] w fun e w' => e = .returned (quV s a) ∧ Below w.heap.size w w' := by
  have HN1 := Lib.hid (fun h => @quV_none s a h)
  have HN2 : Hid (∀ acc m, qtS false (s.data.toList.drop (a + 1)) = some (acc, m) → quV s a = if 1024 < acc.length then badV 1801 else .tuple #[tkV 3 ⟨acc.toArray⟩ 0 a, .int .i64 ((a + 1 + m : Nat) : Int), .int .i64 0]) := fun acc m h => by unfold quV; rw [h]
  have HAT : Hid (QtAt s a (a + 1) []) := by
    refine ⟨Nat.le_refl _, by simp, ?_⟩
    cases qtS false (s.data.toList.drop (a + 1)) <;> simp
  have HT0 : Hid (TkAt (w.alloc (.cells #[.int .i64 0, .string ⟨#[]⟩, .float .f64 0, .int .i64 0] 38)) w.heap.size 0 ⟨#[]⟩ 0 0) := blk_new _ _
  go_enter Tryz.func47, Tryz.ntmps47
  go_wp2_with fail
  go_loopw [7, 8, 9] (fun vo vi _ wr => ∃ (q : Nat) (acc : List UInt8), vi = .int .i64 q ∧ q ≤ s.size ∧ Hid (QtAt s a q acc ∧ BRow wr (w.heap.size + 1) vo acc ∧ TkAt wr w.heap.size 0 ⟨#[]⟩ 0 0 ∧ Below w.heap.size w wr)) (fun _ vi _ _ => s.size - (intOf vi).toNat)
  case atStart => exact ⟨a + 1, [], by go_num, by omega, ⟨HAT.out, World.ownsRow_nil _ _ _ _, HT0.out, (Below.refl _ _).alloc (Nat.le_refl _) _⟩⟩
  case round =>
    obtain ⟨q, acc, rfl, hq, hr⟩ := hrel
    obtain ⟨hqt, hrow, htk, hbl⟩ := hr.out
    obtain ⟨a1, c1, rfl⟩ := hrow.slice
    have hac := hqt.2.1
    have HQ := Lib.hid hqt
    have HROW := Lib.hid hrow
    have HT := Lib.hid htk
    have HBL := Lib.hid hbl
    obtain ⟨d0, d1, d2, d3, g0, g1, g2, g3, hl1⟩ := htk.cells
    clear hr hqt hrow htk hbl HAT HT0
    by_cases hlt : q < s.size
    · cases q34 : ((s[q].toNat : Int) == 34)
      · have n34 := Lib.hid (u8_ne (n := 34) (by decide) q34)
        have b34 : ((s[q].toNat : Int) != 34) = true := by rw [bne, q34]; rfl
        cases q32 : decide ((s[q].toNat : Int) < 32)
        · have g32 : Hid (¬ s[q].toNat < 32) := by have := of_decide_eq_false q32; unfold Hid; omega
          cases q92 : ((s[q].toNat : Int) == 92)
          · have n92 := Lib.hid (u8_ne (n := 92) (by decide) q92)
            have HNX := Lib.hid (HQ.out.step hlt n34.out g32.out n92.out)
            obtain ⟨v2, w5, hrun, hrow5, htk5, hbl5⟩ := round_byte w wr _ acc s[q] HT.out HROW.out HBL.out (by omega)
            have HRUN : Hid ((Builtin.append_ #[67, 67] 67 #[.slice a1 acc.length c1, .slice (some ⟨wr.heap.size, 0, none⟩) 1 1]).run Tryz.prog (wr.alloc (.cells #[.int .u8 (s[q].toNat : Int)] 5)) = .ok v2 w5) := hrun
            have HR5 := Lib.hid hrow5
            have HT5 := Lib.hid htk5
            have HB5 := Lib.hid hbl5
            clear hrun hrow5 htk5 hbl5 d0 d1 d2 d3 g0 g1 g2 g3 hl1
            go_wp2_with (at_builtin; refine reg.wpList_append rfl rfl rfl rfl rfl HRUN.out ?_)
            go_roundw
            case rel => exact ⟨q + 1, _, by go_num, by omega, ⟨HNX.out, HR5.out, HT5.out, HB5.out⟩⟩
            case measure => simp [intOf]; omega
          · have e92 := Lib.hid (u8_eq (n := 92) (by decide) q92)
            by_cases hl2 : q + 1 < s.size
            · have hl3 : decide ((s.size : Int) ≤ (q : Int) + 1) = false := decide_eq_false (by omega)
              cases x34 : ((s[q + 1].toNat : Int) == 34)
              · cases x92 : ((s[q + 1].toNat : Int) == 92)
                · cases x110 : ((s[q + 1].toNat : Int) == 110)
                  · cases x116 : ((s[q + 1].toNat : Int) == 116)
                    · have hno : escB s[q + 1] = none := by
                        unfold escB
                        rw [if_neg (show s[q + 1] ≠ 34 from u8_ne (n := 34) (by decide) x34), if_neg (show s[q + 1] ≠ 92 from u8_ne (n := 92) (by decide) x92), if_neg (show s[q + 1] ≠ 110 from u8_ne (n := 110) (by decide) x110), if_neg (show s[q + 1] ≠ 116 from u8_ne (n := 116) (by decide) x116)]
                      have HN : Hid (quV s a = badV 1801) := HN1.out (HQ.out.noesc hl2 e92.out hno)
                      clear hno
                      go_wp2_with fail
                      have hT := HT.out.set4 0 ⟨#[]⟩ 0 0
                      have hB := tkW_below HBL.out 0 ⟨#[]⟩ 0 0
                      change bodyPost _ _ _ _ _ (tkW wr w.heap.size 0 ⟨#[]⟩ 0 0)
                      change TkAt (tkW wr w.heap.size 0 ⟨#[]⟩ 0 0) _ _ _ _ _ at hT
                      generalize tkW wr w.heap.size 0 ⟨#[]⟩ 0 0 = W at hT hB ⊢
                      obtain ⟨e0, e1, e2, e3, _⟩ := hT.cells
                      exact bodyPost_ret (v := badV 1801) (by simp [results, Tryz.results47, go_sem, e0, e1, e2, e3]) rfl ⟨by rw [HN.out], hB⟩
                    · have hE : escB s[q + 1] = some 9 := by
                        rw [u8_eq (n := 116) (by decide) x116]; decide
                      have hSt := HQ.out.esc hl2 e92.out hE
                      have HSt := Lib.hid hSt
                      clear hE hSt
                      have HNX := Lib.hid (HSt.out)
                      obtain ⟨v2, w5, hrun, hrow5, htk5, hbl5⟩ := round_byte w wr _ acc 9 HT.out HROW.out HBL.out (by omega)
                      have HRUN : Hid ((Builtin.append_ #[67, 67] 67 #[.slice a1 acc.length c1, .slice (some ⟨wr.heap.size, 0, none⟩) 1 1]).run Tryz.prog (wr.alloc (.cells #[.int .u8 9] 5)) = .ok v2 w5) := hrun
                      have HR5 := Lib.hid hrow5
                      have HT5 := Lib.hid htk5
                      have HB5 := Lib.hid hbl5
                      clear hrun hrow5 htk5 hbl5 d0 d1 d2 d3 g0 g1 g2 g3 hl1
                      go_wp2_with (at_builtin; refine reg.wpList_append rfl rfl rfl rfl rfl HRUN.out ?_)
                      go_roundw
                      case rel => exact ⟨q + 2, _, by go_num, by omega, ⟨HNX.out, HR5.out, HT5.out, HB5.out⟩⟩
                      case measure => simp [intOf]; omega
                  · have hE : escB s[q + 1] = some 10 := by
                      rw [u8_eq (n := 110) (by decide) x110]; decide
                    have hSt := HQ.out.esc hl2 e92.out hE
                    have HSt := Lib.hid hSt
                    clear hE hSt
                    have HNX := Lib.hid (HSt.out)
                    obtain ⟨v2, w5, hrun, hrow5, htk5, hbl5⟩ := round_byte w wr _ acc 10 HT.out HROW.out HBL.out (by omega)
                    have HRUN : Hid ((Builtin.append_ #[67, 67] 67 #[.slice a1 acc.length c1, .slice (some ⟨wr.heap.size, 0, none⟩) 1 1]).run Tryz.prog (wr.alloc (.cells #[.int .u8 10] 5)) = .ok v2 w5) := hrun
                    have HR5 := Lib.hid hrow5
                    have HT5 := Lib.hid htk5
                    have HB5 := Lib.hid hbl5
                    clear hrun hrow5 htk5 hbl5 d0 d1 d2 d3 g0 g1 g2 g3 hl1
                    go_wp2_with (at_builtin; refine reg.wpList_append rfl rfl rfl rfl rfl HRUN.out ?_)
                    go_roundw
                    case rel => exact ⟨q + 2, _, by go_num, by omega, ⟨HNX.out, HR5.out, HT5.out, HB5.out⟩⟩
                    case measure => simp [intOf]; omega
                · have hE : escB s[q + 1] = some s[q + 1] := by
                    rw [u8_eq (n := 92) (by decide) x92]; decide
                  have hSt := HQ.out.esc hl2 e92.out hE
                  have HSt := Lib.hid hSt
                  clear hE hSt
                  have HNX := Lib.hid (HSt.out)
                  obtain ⟨v2, w5, hrun, hrow5, htk5, hbl5⟩ := round_byte w wr _ acc s[q + 1] HT.out HROW.out HBL.out (by omega)
                  have HRUN : Hid ((Builtin.append_ #[67, 67] 67 #[.slice a1 acc.length c1, .slice (some ⟨wr.heap.size, 0, none⟩) 1 1]).run Tryz.prog (wr.alloc (.cells #[.int .u8 (s[q + 1].toNat : Int)] 5)) = .ok v2 w5) := hrun
                  have HR5 := Lib.hid hrow5
                  have HT5 := Lib.hid htk5
                  have HB5 := Lib.hid hbl5
                  clear hrun hrow5 htk5 hbl5 d0 d1 d2 d3 g0 g1 g2 g3 hl1
                  go_wp2_with (at_builtin; refine reg.wpList_append rfl rfl rfl rfl rfl HRUN.out ?_)
                  go_roundw
                  case rel => exact ⟨q + 2, _, by go_num, by omega, ⟨HNX.out, HR5.out, HT5.out, HB5.out⟩⟩
                  case measure => simp [intOf]; omega
              · have hE : escB s[q + 1] = some s[q + 1] := by
                  rw [u8_eq (n := 34) (by decide) x34]; decide
                have hSt := HQ.out.esc hl2 e92.out hE
                have HSt := Lib.hid hSt
                clear hE hSt
                have HNX := Lib.hid (HSt.out)
                obtain ⟨v2, w5, hrun, hrow5, htk5, hbl5⟩ := round_byte w wr _ acc s[q + 1] HT.out HROW.out HBL.out (by omega)
                have HRUN : Hid ((Builtin.append_ #[67, 67] 67 #[.slice a1 acc.length c1, .slice (some ⟨wr.heap.size, 0, none⟩) 1 1]).run Tryz.prog (wr.alloc (.cells #[.int .u8 (s[q + 1].toNat : Int)] 5)) = .ok v2 w5) := hrun
                have HR5 := Lib.hid hrow5
                have HT5 := Lib.hid htk5
                have HB5 := Lib.hid hbl5
                clear hrun hrow5 htk5 hbl5 d0 d1 d2 d3 g0 g1 g2 g3 hl1
                go_wp2_with (at_builtin; refine reg.wpList_append rfl rfl rfl rfl rfl HRUN.out ?_)
                go_roundw
                case rel => exact ⟨q + 2, _, by go_num, by omega, ⟨HNX.out, HR5.out, HT5.out, HB5.out⟩⟩
                case measure => simp [intOf]; omega
            · have hl3 : decide ((s.size : Int) ≤ (q : Int) + 1) = true := decide_eq_true (by omega)
              have HN : Hid (quV s a = badV 1801) := HN1.out (HQ.out.end' hlt e92.out (by omega))
              go_wp2_with fail
              have hT := HT.out.set4 0 ⟨#[]⟩ 0 0
              have hB := tkW_below HBL.out 0 ⟨#[]⟩ 0 0
              change bodyPost _ _ _ _ _ (tkW wr w.heap.size 0 ⟨#[]⟩ 0 0)
              change TkAt (tkW wr w.heap.size 0 ⟨#[]⟩ 0 0) _ _ _ _ _ at hT
              generalize tkW wr w.heap.size 0 ⟨#[]⟩ 0 0 = W at hT hB ⊢
              obtain ⟨e0, e1, e2, e3, _⟩ := hT.cells
              exact bodyPost_ret (v := badV 1801) (by simp [results, Tryz.results47, go_sem, e0, e1, e2, e3]) rfl ⟨by rw [HN.out], hB⟩
        · have g32 : Hid (s[q].toNat < 32) := by have := of_decide_eq_true q32; unfold Hid; omega
          have HN : Hid (quV s a = badV 1801) := HN1.out (HQ.out.low hlt n34.out g32.out)
          go_wp2_with fail
          have hT := HT.out.set4 0 ⟨#[]⟩ 0 0
          have hB := tkW_below HBL.out 0 ⟨#[]⟩ 0 0
          change bodyPost _ _ _ _ _ (tkW wr w.heap.size 0 ⟨#[]⟩ 0 0)
          change TkAt (tkW wr w.heap.size 0 ⟨#[]⟩ 0 0) _ _ _ _ _ at hT
          generalize tkW wr w.heap.size 0 ⟨#[]⟩ 0 0 = W at hT hB ⊢
          obtain ⟨e0, e1, e2, e3, _⟩ := hT.cells
          exact bodyPost_ret (v := badV 1801) (by simp [results, Tryz.results47, go_sem, e0, e1, e2, e3]) rfl ⟨by rw [HN.out], hB⟩
      · have e34 := Lib.hid (u8_eq (n := 34) (by decide) q34)
        have b34 : ((s[q].toNat : Int) != 34) = false := by rw [bne, q34]; rfl
        have HX := Lib.hid (HN2.out _ _ (HQ.out.quote hlt e34.out))
        have haq := HQ.out.1
        have hge : decide ((s.size : Int) ≤ (q : Int)) = false := decide_eq_false (by omega)
        by_cases hbig : 1024 < acc.length
        · have hd : decide (1024 < (acc.length : Int)) = true := decide_eq_true (by omega)
          have HN : Hid (quV s a = badV 1801) := by unfold Hid; rw [HX.out, if_pos hbig]
          go_wp2_with fail
          have hT := HT.out.set4 0 ⟨#[]⟩ 0 0
          have hB := tkW_below HBL.out 0 ⟨#[]⟩ 0 0
          change bodyPost _ _ _ _ _ (tkW wr w.heap.size 0 ⟨#[]⟩ 0 0)
          change TkAt (tkW wr w.heap.size 0 ⟨#[]⟩ 0 0) _ _ _ _ _ at hT
          generalize tkW wr w.heap.size 0 ⟨#[]⟩ 0 0 = W at hT hB ⊢
          obtain ⟨e0, e1, e2, e3, _⟩ := hT.cells
          exact bodyPost_ret (v := badV 1801) (by simp [results, Tryz.results47, go_sem, e0, e1, e2, e3]) rfl ⟨by rw [HN.out], hB⟩
        · have hd : decide (1024 < (acc.length : Int)) = false := decide_eq_false (by omega)
          have HN : Hid (quV s a = .tuple #[tkV 3 ⟨acc.toArray⟩ 0 a, .int .i64 ((q : Int) + 1), .int .i64 0]) := by
            unfold Hid; rw [HX.out, if_neg hbig, show ((a + 1 + (q - a) : Nat) : Int) = (q : Int) + 1 by omega]
          have hcv := HROW.out.conv
          clear hbig
          go_wp2_with fail
          have hT := HT.out.set4 3 ⟨acc.toArray⟩ 0 a
          have hB := tkW_below HBL.out 3 ⟨acc.toArray⟩ 0 a
          change bodyPost _ _ _ _ _ (tkW wr w.heap.size 3 ⟨acc.toArray⟩ 0 a)
          change TkAt (tkW wr w.heap.size 3 ⟨acc.toArray⟩ 0 a) _ _ _ _ _ at hT
          generalize tkW wr w.heap.size 3 ⟨acc.toArray⟩ 0 a = W at hT hB ⊢
          obtain ⟨e0, e1, e2, e3, _⟩ := hT.cells
          exact bodyPost_ret (v := .tuple #[tkV 3 ⟨acc.toArray⟩ 0 a, .int .i64 ((q : Int) + 1), .int .i64 0]) (by simp [results, Tryz.results47, go_sem, e0, e1, e2, e3]) rfl ⟨by rw [HN.out], hB⟩
    · have hge : decide ((s.size : Int) ≤ (q : Int)) = true := decide_eq_true (by omega)
      have HN : Hid (quV s a = badV 1801) := HN1.out (HQ.out.over (by omega))
      go_wp2_with fail
      have hT := HT.out.set4 0 ⟨#[]⟩ 0 0
      have hB := tkW_below HBL.out 0 ⟨#[]⟩ 0 0
      change bodyPost _ _ _ _ _ (tkW wr w.heap.size 0 ⟨#[]⟩ 0 0)
      change TkAt (tkW wr w.heap.size 0 ⟨#[]⟩ 0 0) _ _ _ _ _ at hT
      generalize tkW wr w.heap.size 0 ⟨#[]⟩ 0 0 = W at hT hB ⊢
      obtain ⟨e0, e1, e2, e3, _⟩ := hT.cells
      exact bodyPost_ret (v := badV 1801) (by simp [results, Tryz.results47, go_sem, e0, e1, e2, e3]) rfl ⟨by rw [HN.out], hB⟩
end Go.Proofs.YtjanpaallealgaaGreatDoor.lex

namespace Go.Proofs.YtjanpaallealgaaGreatDoor.lex
open Go.RowKit
open flt (isD fv ofT str_size rofT rofE rOfText_any of_same)
open heap
open num (list_len drop_cons)
set_option linter.unusedVariables false
set_option linter.unusedSimpArgs false
set_option maxRecDepth 100000
attribute [local go_sem] run_store_float

/-- What next returns with t ahead. -/
def nxV (a : Nat) (t : List UInt8) : Value := match tok t with
  | .error e => badV e
  | .ok x => .tuple #[tkV x.1 ⟨x.2.1.toArray⟩ x.2.2.1 a, .int .i64 ((a + x.2.2.2 : Nat) : Int), .int .i64 0]
abbrev nW (w : World) : World := w.alloc (.cells #[.int .i64 0, .string ⟨#[]⟩, .float .f64 0, .int .i64 0] 38)
theorem nW_at (w : World) : TkAt (nW w) w.heap.size 0 ⟨#[]⟩ 0 0 := blk_new _ _
theorem nW_below (w : World) : Below w.heap.size w (nW w) := (Below.refl _ _).alloc (Nat.le_refl _) _
theorem ext_mid (s : ByteArray) (a n : Nat) : s.extract a (a + n) = ⟨((s.data.toList.drop a).take n).toArray⟩ := by
  apply ByteArray.ext
  apply Array.toList_inj.1
  rw [ByteArray.data_extract, Array.toList_extract, List.extract_eq_take_drop]
  simp
theorem getD_at (s : ByteArray) (a i : Nat) (h : a + i < s.size) : (s.data.toList.drop a).getD i 0 = s[a + i] := by
  rw [List.getD_eq_getElem?_getD, List.getElem?_drop, List.getElem?_eq_getElem (by rw [list_len]; exact h)]
  rfl
theorem drop_ne (s : ByteArray) (a : Nat) (h : a < s.size) : s.data.toList.drop a ≠ [] := by
  rw [Ne, List.drop_eq_nil_iff, list_len]; omega
theorem rb_step (p : UInt8 → Bool) (s : ByteArray) (q : Nat) (h : q < s.size) (hp : p s[q] = true) : runB p (s.data.toList.drop q) = runB p (s.data.toList.drop (q + 1)) + 1 := by
  rw [drop_cons s q h, runB_yes hp]
theorem rb_stop (p : UInt8 → Bool) (s : ByteArray) (q : Nat) (h : q < s.size) (hp : p s[q] = false) : runB p (s.data.toList.drop q) = 0 := by
  rw [drop_cons s q h, runB_no hp]
theorem rb_end (p : UInt8 → Bool) (s : ByteArray) (q : Nat) (h : s.size ≤ q) : runB p (s.data.toList.drop q) = 0 := by
  rw [List.drop_eq_nil_of_le (by rw [list_len]; exact h)]; rfl
set_option maxHeartbeats 4000000 in
theorem nx_name (s : ByteArray) (a : Nat) (w : World) (ha : a < s.size) (hs : s.size ≤ 1000000000) (HL : Hid (∀ W, Calls Tryz.prog 44 #[.int .u8 (s[a].toNat : Int)] W fun e w' => e = .returned (.bool true) ∧ W = w')) (hl : letB s[a] = true) (HV : Hid (∀ n, runB wordB (s.data.toList.drop a) = n → (32 < n → nxV a (s.data.toList.drop a) = badV 1800) ∧ (¬ 32 < n → nxV a (s.data.toList.drop a) = .tuple #[tkV 1 (s.extract a (a + n)) 0 a, .int .i64 ((a + n : Nat) : Int), .int .i64 0]))) :
    Calls Tryz.prog 27 #[.string s, .int .i64 a] w fun e w' => e = .returned (nxV a (s.data.toList.drop a)) ∧ Below w.heap.size w w' := by
  obtain ⟨d0, d1, d2, d3, g0, g1, g2, g3, hl1⟩ := (nW_at w).cells
  have HS : Hid (runB wordB (s.data.toList.drop a) = (a + 1 - a) + runB wordB (s.data.toList.drop (a + 1))) := by
    unfold Hid; rw [rb_step wordB s a ha (by unfold wordB; rw [hl]; rfl)]; omega
  clear hl
  go_enter Tryz.func27, Tryz.ntmps27
  go_wp2_with (go_at_call 44; refine (HL.out _).mono ?_; rintro e w' ⟨rfl, rfl⟩)
  go_loop [8] (fun i => ∃ q : Nat, i = .int .i64 q ∧ a < q ∧ q ≤ s.size ∧ Hid (runB wordB (s.data.toList.drop a) = (q - a) + runB wordB (s.data.toList.drop q))) (fun i => s.size - (intOf i).toNat)
  case atStart => exact ⟨a + 1, by go_num, by omega, by omega, HS⟩
  case round =>
    obtain ⟨q, rfl, haq, hq, HQ⟩ := hrel
    by_cases hlt : q < s.size
    · have HL2 : Hid (∀ W, Calls Tryz.prog 44 #[.int .u8 (s[q].toNat : Int)] W fun e w' => e = .returned (.bool (letB s[q])) ∧ W = w') := fun W => rlet_any s[q] W
      have HD2 : Hid (∀ W, Calls Tryz.prog 45 #[.int .u8 (s[q].toNat : Int)] W fun e w' => e = .returned (.bool (isD s[q])) ∧ W = w') := fun W => rdig_any s[q] W
      cases h1 : letB s[q] with
      | true =>
        rw [h1] at HL2
        have hw : wordB s[q] = true := by unfold wordB; rw [h1]; rfl
        have HN : Hid (runB wordB (s.data.toList.drop a) = (q + 1 - a) + runB wordB (s.data.toList.drop (q + 1))) := by
          unfold Hid; rw [HQ.out, rb_step wordB s q hlt hw]; omega
        clear hw
        go_wp2_with (first | (go_at_call 44; refine (HL2.out _).mono ?_; rintro e w' ⟨rfl, rfl⟩) | (go_at_call 45; refine (HD2.out _).mono ?_; rintro e w' ⟨rfl, rfl⟩))
        go_round
        case rel => exact ⟨q + 1, by go_num, by omega, by omega, HN⟩
        case measure => simp [intOf]; omega
      | false =>
        rw [h1] at HL2
        cases h2 : isD s[q] with
        | true =>
          rw [h2] at HD2
          have hw : wordB s[q] = true := by unfold wordB; rw [h1, h2]; rfl
          have HN : Hid (runB wordB (s.data.toList.drop a) = (q + 1 - a) + runB wordB (s.data.toList.drop (q + 1))) := by
            unfold Hid; rw [HQ.out, rb_step wordB s q hlt hw]; omega
          clear hw
          go_wp2_with (first | (go_at_call 44; refine (HL2.out _).mono ?_; rintro e w' ⟨rfl, rfl⟩) | (go_at_call 45; refine (HD2.out _).mono ?_; rintro e w' ⟨rfl, rfl⟩))
          go_round
          case rel => exact ⟨q + 1, by go_num, by omega, by omega, HN⟩
          case measure => simp [intOf]; omega
        | false =>
          rw [h2] at HD2
          have HN : Hid (runB wordB (s.data.toList.drop a) = q - a) := by
            unfold Hid; rw [HQ.out, rb_stop wordB s q hlt (by unfold wordB; rw [h1, h2]; rfl)]; rfl
          clear h1 h2
          by_cases h32 : 32 < q - a
          · have HX := Lib.hid ((HV.out (q - a) HN.out).1 h32)
            have hd : decide (32 < (q : Int) - a) = true := decide_eq_true (by omega)
            clear h32 HV
            go_wp2_with (first | (go_at_call 44; refine (HL2.out _).mono ?_; rintro e w' ⟨rfl, rfl⟩) | (go_at_call 45; refine (HD2.out _).mono ?_; rintro e w' ⟨rfl, rfl⟩))
            have hT : TkAt (w.alloc (.cells #[.int .i64 0, .string ⟨#[]⟩, .float .f64 0, .int .i64 (0 : Nat)] 38)) w.heap.size 0 ⟨#[]⟩ 0 0 := blk_new _ _
            have hB : Below w.heap.size w (w.alloc (.cells #[.int .i64 0, .string ⟨#[]⟩, .float .f64 0, .int .i64 (0 : Nat)] 38)) := (Below.refl _ _).alloc (Nat.le_refl _) _
            change bodyPost _ _ _ _ _ (w.alloc (.cells #[.int .i64 0, .string ⟨#[]⟩, .float .f64 0, .int .i64 (0 : Nat)] 38))
            generalize w.alloc (.cells #[.int .i64 0, .string ⟨#[]⟩, .float .f64 0, .int .i64 (0 : Nat)] 38) = W at hT hB ⊢
            obtain ⟨e0, e1, e2, e3, _⟩ := hT.cells
            exact bodyPost_ret (v := badV 1800) (by simp [results, Tryz.results27, go_sem, e0, e1, e2, e3]) rfl ⟨by rw [HX.out], hB⟩
          · have hx := (HV.out (q - a) HN.out).2 h32
            rw [show a + (q - a) = q by omega] at hx
            have HX := Lib.hid hx
            have hd : decide (32 < (q : Int) - a) = false := decide_eq_false (by omega)
            clear h32 HV hx
            go_wp2_with (first | (go_at_call 44; refine (HL2.out _).mono ?_; rintro e w' ⟨rfl, rfl⟩) | (go_at_call 45; refine (HD2.out _).mono ?_; rintro e w' ⟨rfl, rfl⟩))
            have hT : TkAt (w.alloc (.cells #[.int .i64 1, .string (s.extract a q), .float .f64 0, .int .i64 (a : Nat)] 38)) w.heap.size 1 (s.extract a q) 0 a := blk_new _ _
            have hB : Below w.heap.size w (w.alloc (.cells #[.int .i64 1, .string (s.extract a q), .float .f64 0, .int .i64 (a : Nat)] 38)) := (Below.refl _ _).alloc (Nat.le_refl _) _
            change bodyPost _ _ _ _ _ (w.alloc (.cells #[.int .i64 1, .string (s.extract a q), .float .f64 0, .int .i64 (a : Nat)] 38))
            generalize w.alloc (.cells #[.int .i64 1, .string (s.extract a q), .float .f64 0, .int .i64 (a : Nat)] 38) = W at hT hB ⊢
            obtain ⟨e0, e1, e2, e3, _⟩ := hT.cells
            exact bodyPost_ret (v := .tuple #[tkV 1 (s.extract a q) 0 a, .int .i64 (q : Nat), .int .i64 0]) (by simp [results, Tryz.results27, go_sem, e0, e1, e2, e3]) rfl ⟨by rw [HX.out], hB⟩
    · have HN : Hid (runB wordB (s.data.toList.drop a) = q - a) := by
        unfold Hid; rw [HQ.out, rb_end wordB s q (by omega)]; rfl
      by_cases h32 : 32 < q - a
      · have HX := Lib.hid ((HV.out (q - a) HN.out).1 h32)
        have hd : decide (32 < (q : Int) - a) = true := decide_eq_true (by omega)
        clear h32 HV
        go_wp2_with fail
        have hT : TkAt (w.alloc (.cells #[.int .i64 0, .string ⟨#[]⟩, .float .f64 0, .int .i64 (0 : Nat)] 38)) w.heap.size 0 ⟨#[]⟩ 0 0 := blk_new _ _
        have hB : Below w.heap.size w (w.alloc (.cells #[.int .i64 0, .string ⟨#[]⟩, .float .f64 0, .int .i64 (0 : Nat)] 38)) := (Below.refl _ _).alloc (Nat.le_refl _) _
        change bodyPost _ _ _ _ _ (w.alloc (.cells #[.int .i64 0, .string ⟨#[]⟩, .float .f64 0, .int .i64 (0 : Nat)] 38))
        generalize w.alloc (.cells #[.int .i64 0, .string ⟨#[]⟩, .float .f64 0, .int .i64 (0 : Nat)] 38) = W at hT hB ⊢
        obtain ⟨e0, e1, e2, e3, _⟩ := hT.cells
        exact bodyPost_ret (v := badV 1800) (by simp [results, Tryz.results27, go_sem, e0, e1, e2, e3]) rfl ⟨by rw [HX.out], hB⟩
      · have hx := (HV.out (q - a) HN.out).2 h32
        rw [show a + (q - a) = q by omega] at hx
        have HX := Lib.hid hx
        have hd : decide (32 < (q : Int) - a) = false := decide_eq_false (by omega)
        clear h32 HV hx
        go_wp2_with fail
        have hT : TkAt (w.alloc (.cells #[.int .i64 1, .string (s.extract a q), .float .f64 0, .int .i64 (a : Nat)] 38)) w.heap.size 1 (s.extract a q) 0 a := blk_new _ _
        have hB : Below w.heap.size w (w.alloc (.cells #[.int .i64 1, .string (s.extract a q), .float .f64 0, .int .i64 (a : Nat)] 38)) := (Below.refl _ _).alloc (Nat.le_refl _) _
        change bodyPost _ _ _ _ _ (w.alloc (.cells #[.int .i64 1, .string (s.extract a q), .float .f64 0, .int .i64 (a : Nat)] 38))
        generalize w.alloc (.cells #[.int .i64 1, .string (s.extract a q), .float .f64 0, .int .i64 (a : Nat)] 38) = W at hT hB ⊢
        obtain ⟨e0, e1, e2, e3, _⟩ := hT.cells
        exact bodyPost_ret (v := .tuple #[tkV 1 (s.extract a q) 0 a, .int .i64 (q : Nat), .int .i64 0]) (by simp [results, Tryz.results27, go_sem, e0, e1, e2, e3]) rfl ⟨by rw [HX.out], hB⟩
set_option maxHeartbeats 4000000 in
theorem nx_num (s : ByteArray) (a : Nat) (w : World) (ha : a < s.size) (hs : s.size ≤ 1000000000) (HL : Hid (∀ W, Calls Tryz.prog 44 #[.int .u8 (s[a].toNat : Int)] W fun e w' => e = .returned (.bool false) ∧ W = w')) (HD : Hid (∀ W, Calls Tryz.prog 45 #[.int .u8 (s[a].toNat : Int)] W fun e w' => e = .returned (.bool true) ∧ W = w')) (N0 n : Nat) (b : Bool) (hN0 : a + runB isD (s.data.toList.drop a) = N0) (hl0 : a + 1 + runB isD (s.data.toList.drop (a + 1)) = N0) (hn0 : N0 ≤ s.size) (hnn : n ≤ s.size)
    (HP : Hid ((s.size ≤ N0 + 1 ∧ b = false) ∨ (∃ h : N0 + 1 < s.size, ((s[N0].toNat : Int) == 46) = false ∧ b = false) ∨
      (∃ h : N0 + 1 < s.size, ((s[N0].toNat : Int) == 46) = true ∧ Hid (∀ W, Calls Tryz.prog 45 #[.int .u8 (s[N0 + 1].toNat : Int)] W fun e w' => e = .returned (.bool b) ∧ W = w'))))
    (HQ : Hid ((b = false ∧ n = N0) ∨ (b = true ∧ N0 + 1 < s.size ∧ N0 + 1 + runB isD (s.data.toList.drop (N0 + 1)) = n)))
    (T : ByteArray) (hT0 : s.extract a n = T) (hle : a ≤ n) (x : Nat) (er : Int) (HX : Hid (∀ W, Calls Tryz.prog 46 #[.string T] W fun e w' => e = .returned (.tuple #[fv x, .int .i64 er]) ∧ Below W.heap.size W w'))
    (V : Value) (HS : Hid ((er ≠ 0 ∧ V = badV 1802) ∨ (er = 0 ∧ s.size ≤ n ∧ V = (.tuple #[tkV 2 T x a, .int .i64 (n : Nat), .int .i64 0] : Value)) ∨
      (er = 0 ∧ ∃ h : n < s.size, Hid (∀ W, Calls Tryz.prog 44 #[.int .u8 (s[n].toNat : Int)] W fun e w' => e = .returned (.bool true) ∧ W = w') ∧ V = badV 1802) ∨
      (er = 0 ∧ ∃ h : n < s.size, Hid (∀ W, Calls Tryz.prog 44 #[.int .u8 (s[n].toNat : Int)] W fun e w' => e = .returned (.bool false) ∧ W = w') ∧ ((s[n].toNat : Int) == 46) = true ∧ V = badV 1802) ∨
      (er = 0 ∧ ∃ h : n < s.size, Hid (∀ W, Calls Tryz.prog 44 #[.int .u8 (s[n].toNat : Int)] W fun e w' => e = .returned (.bool false) ∧ W = w') ∧ ((s[n].toNat : Int) == 46) = false ∧ V = (.tuple #[tkV 2 T x a, .int .i64 (n : Nat), .int .i64 0] : Value)))) :
    Calls Tryz.prog 27 #[.string s, .int .i64 a] w fun e w' => e = .returned (V) ∧ Below w.heap.size w w' := by
  go_enter Tryz.func27, Tryz.ntmps27
  go_upto_block 3 with (first | (go_at_call 44; refine (HL.out _).mono ?_; rintro e w' ⟨rfl, rfl⟩) | (go_at_call 45; refine (HD.out _).mono ?_; rintro e w' ⟨rfl, rfl⟩))
  go_cut [8] from 54 to 65 (fun s8 wx => s8 = .int .i64 (N0 : Nat) ∧ wx = nW w)
  case first =>
    clear HS HX HQ HP
    go_wp2_with fail
    go_loop [8] (fun i => ∃ q : Nat, i = .int .i64 q ∧ (a + 1) ≤ q ∧ q ≤ s.size ∧ Hid (runB isD (s.data.toList.drop (a + 1)) = (q - (a + 1)) + runB isD (s.data.toList.drop q))) (fun i => s.size - (intOf i).toNat)
    case atStart => exact ⟨(a + 1), by go_num, by omega, by omega, by unfold Hid; omega⟩
    case round =>
      obtain ⟨q, rfl, haq, hq, HQ⟩ := hrel
      by_cases hlt : q < s.size
      · have HD2 : Hid (∀ W, Calls Tryz.prog 45 #[.int .u8 (s[q].toNat : Int)] W fun e w' => e = .returned (.bool (isD s[q])) ∧ W = w') := fun W => rdig_any s[q] W
        cases h1 : isD s[q] with
        | true =>
          rw [h1] at HD2
          have HN : Hid (runB isD (s.data.toList.drop (a + 1)) = (q + 1 - (a + 1)) + runB isD (s.data.toList.drop (q + 1))) := by
            unfold Hid; rw [HQ.out, rb_step isD s q hlt h1]; omega
          go_wp2_with (go_at_call 45; refine (HD2.out _).mono ?_; rintro e w' ⟨rfl, rfl⟩)
          go_round
          case rel => exact ⟨q + 1, by go_num, by omega, by omega, HN⟩
          case measure => simp [intOf]; omega
        | false =>
          rw [h1] at HD2
          have HN : Hid (runB isD (s.data.toList.drop (a + 1)) = q - (a + 1)) := by
            unfold Hid; rw [HQ.out, rb_stop isD s q hlt h1]; rfl
          clear h1
          go_wp2_with (go_at_call 45; refine (HD2.out _).mono ?_; rintro e w' ⟨rfl, rfl⟩)
          go_meet
          exact ⟨by have := HN.out; congr 1; omega, rfl⟩
      · have HN : Hid (runB isD (s.data.toList.drop (a + 1)) = q - (a + 1)) := by
          unfold Hid; rw [HQ.out, rb_end isD s q (by omega)]; rfl
        go_wp2_with fail
        go_meet
        exact ⟨by have := HN.out; congr 1; omega, rfl⟩
  case rest =>
  obtain ⟨rfl, rfl⟩ := hcut
  go_upto_region 12 with (fail)
  go_cut [83] from 66 to 82 (fun s83 wx => s83 = .bool b ∧ wx = nW w)
  case first =>
    clear HS HX HQ
    rcases HP.out with ⟨h1, rfl⟩ | ⟨h1, h2, rfl⟩ | ⟨h1, h2, HG⟩
    · clear HP
      have hl : decide ((N0 : Int) + 1 < s.size) = false := decide_eq_false (by omega)
      go_wp2_with fail
      go_meet
      exact ⟨rfl, rfl⟩
    · clear HP
      have hl : decide ((N0 : Int) + 1 < s.size) = true := decide_eq_true (by omega)
      have h3 : N0 < s.size := by omega
      go_wp2_with fail
      go_meet
      exact ⟨rfl, rfl⟩
    · clear HP
      have hl : decide ((N0 : Int) + 1 < s.size) = true := decide_eq_true (by omega)
      have h3 : N0 < s.size := by omega
      go_wp2_with (go_at_call 45; refine (HG.out _).mono ?_; rintro e w' ⟨rfl, rfl⟩)
      go_meet
      exact ⟨rfl, rfl⟩
  case rest =>
  obtain ⟨rfl, rfl⟩ := hcut
  clear HP
  go_upto_if 83 with (fail)
  go_cut [8] from 84 to 97 (fun s8 wx => s8 = .int .i64 (n : Nat) ∧ wx = nW w)
  case first =>
    clear HS HX
    rcases HQ.out with ⟨rfl, rfl⟩ | ⟨rfl, h1, h2⟩
    · clear HQ
      go_wp2_with fail
      go_meet
      exact ⟨rfl, rfl⟩
    · clear HQ
      go_wp2_with fail
      go_loop [8] (fun i => ∃ q : Nat, i = .int .i64 q ∧ (N0 + 1) ≤ q ∧ q ≤ s.size ∧ Hid (runB isD (s.data.toList.drop (N0 + 1)) = (q - (N0 + 1)) + runB isD (s.data.toList.drop q))) (fun i => s.size - (intOf i).toNat)
      case atStart => exact ⟨(N0 + 1), by go_num, by omega, by omega, by unfold Hid; omega⟩
      case round =>
        obtain ⟨q, rfl, haq, hq, HQ⟩ := hrel
        by_cases hlt : q < s.size
        · have HD2 : Hid (∀ W, Calls Tryz.prog 45 #[.int .u8 (s[q].toNat : Int)] W fun e w' => e = .returned (.bool (isD s[q])) ∧ W = w') := fun W => rdig_any s[q] W
          cases h1 : isD s[q] with
          | true =>
            rw [h1] at HD2
            have HN : Hid (runB isD (s.data.toList.drop (N0 + 1)) = (q + 1 - (N0 + 1)) + runB isD (s.data.toList.drop (q + 1))) := by
              unfold Hid; rw [HQ.out, rb_step isD s q hlt h1]; omega
            go_wp2_with (go_at_call 45; refine (HD2.out _).mono ?_; rintro e w' ⟨rfl, rfl⟩)
            go_round
            case rel => exact ⟨q + 1, by go_num, by omega, by omega, HN⟩
            case measure => simp [intOf]; omega
          | false =>
            rw [h1] at HD2
            have HN : Hid (runB isD (s.data.toList.drop (N0 + 1)) = q - (N0 + 1)) := by
              unfold Hid; rw [HQ.out, rb_stop isD s q hlt h1]; rfl
            clear h1
            go_wp2_with (go_at_call 45; refine (HD2.out _).mono ?_; rintro e w' ⟨rfl, rfl⟩)
            go_meet
            exact ⟨by have := HN.out; congr 1; omega, rfl⟩
        · have HN : Hid (runB isD (s.data.toList.drop (N0 + 1)) = q - (N0 + 1)) := by
            unfold Hid; rw [HQ.out, rb_end isD s q (by omega)]; rfl
          go_wp2_with fail
          go_meet
          exact ⟨by have := HN.out; congr 1; omega, rfl⟩
  case rest =>
    obtain ⟨rfl, rfl⟩ := hcut
    clear HQ
    go_wp2_with fail
    refine (HX.out _).mono ?_; rintro e w2 ⟨rfl, hb2⟩
    have HT2 : Hid (TkAt w2 w.heap.size 0 ⟨#[]⟩ 0 0) := (nW_at w).below hb2
    have HB2 : Hid (Below w.heap.size w w2) := (nW_below w).trans (hb2.mono (by simp))
    clear hb2
    obtain ⟨d0, d1, d2, d3, g0, g1, g2, g3, hl1⟩ := HT2.out.cells
    rcases HS.out with ⟨h1, rfl⟩ | ⟨rfl, h1, rfl⟩ | ⟨rfl, h1, HG, rfl⟩ | ⟨rfl, h1, HG, h2, rfl⟩ | ⟨rfl, h1, HG, h2, rfl⟩
    · clear HS
      have h2 : (er == 0) = false := beq_eq_false_iff_ne.2 h1
      go_wp2_with fail
      have hT := (TkAt.set4 (w := w2) (b := w.heap.size) HT2.out 0 ⟨#[]⟩ 0 0)
      have hB := tkW_below HB2.out 0 ⟨#[]⟩ 0 0
      change bodyPost _ _ _ _ _ (tkW w2 w.heap.size 0 ⟨#[]⟩ 0 0)
      change TkAt (tkW w2 w.heap.size 0 ⟨#[]⟩ 0 0) _ _ _ _ _ at hT
      generalize tkW w2 w.heap.size 0 ⟨#[]⟩ 0 0 = W at hT hB ⊢
      obtain ⟨e0, e1, e2, e3, _⟩ := hT.cells
      exact bodyPost_ret (v := badV 1802) (by simp [results, Tryz.results27, go_sem, e0, e1, e2, e3]) rfl ⟨rfl, hB⟩
    · clear HS
      have hl : decide ((n : Int) < s.size) = false := decide_eq_false (by omega)
      go_wp2_with fail
      have hT := (TkAt.set4 (w := w2) (b := w.heap.size) HT2.out 2 T x a)
      have hB := tkW_below HB2.out 2 T x a
      change bodyPost _ _ _ _ _ (tkW w2 w.heap.size 2 T x a)
      change TkAt (tkW w2 w.heap.size 2 T x a) _ _ _ _ _ at hT
      generalize tkW w2 w.heap.size 2 T x a = W at hT hB ⊢
      obtain ⟨e0, e1, e2, e3, _⟩ := hT.cells
      exact bodyPost_ret (v := (.tuple #[tkV 2 T x a, .int .i64 (n : Nat), .int .i64 0] : Value)) (by simp [results, Tryz.results27, go_sem, e0, e1, e2, e3]) rfl ⟨rfl, hB⟩
    · clear HS
      have hl : decide ((n : Int) < s.size) = true := decide_eq_true (by omega)
      go_wp2_with (go_at_call 44; refine (HG.out _).mono ?_; rintro e w' ⟨rfl, rfl⟩)
      have hT := (TkAt.set4 (w := w2) (b := w.heap.size) HT2.out 0 ⟨#[]⟩ 0 0)
      have hB := tkW_below HB2.out 0 ⟨#[]⟩ 0 0
      change bodyPost _ _ _ _ _ (tkW w2 w.heap.size 0 ⟨#[]⟩ 0 0)
      change TkAt (tkW w2 w.heap.size 0 ⟨#[]⟩ 0 0) _ _ _ _ _ at hT
      generalize tkW w2 w.heap.size 0 ⟨#[]⟩ 0 0 = W at hT hB ⊢
      obtain ⟨e0, e1, e2, e3, _⟩ := hT.cells
      exact bodyPost_ret (v := badV 1802) (by simp [results, Tryz.results27, go_sem, e0, e1, e2, e3]) rfl ⟨rfl, hB⟩
    · clear HS
      have hl : decide ((n : Int) < s.size) = true := decide_eq_true (by omega)
      go_wp2_with (go_at_call 44; refine (HG.out _).mono ?_; rintro e w' ⟨rfl, rfl⟩)
      have hT := (TkAt.set4 (w := w2) (b := w.heap.size) HT2.out 0 ⟨#[]⟩ 0 0)
      have hB := tkW_below HB2.out 0 ⟨#[]⟩ 0 0
      change bodyPost _ _ _ _ _ (tkW w2 w.heap.size 0 ⟨#[]⟩ 0 0)
      change TkAt (tkW w2 w.heap.size 0 ⟨#[]⟩ 0 0) _ _ _ _ _ at hT
      generalize tkW w2 w.heap.size 0 ⟨#[]⟩ 0 0 = W at hT hB ⊢
      obtain ⟨e0, e1, e2, e3, _⟩ := hT.cells
      exact bodyPost_ret (v := badV 1802) (by simp [results, Tryz.results27, go_sem, e0, e1, e2, e3]) rfl ⟨rfl, hB⟩
    · clear HS
      have hl : decide ((n : Int) < s.size) = true := decide_eq_true (by omega)
      go_wp2_with (go_at_call 44; refine (HG.out _).mono ?_; rintro e w' ⟨rfl, rfl⟩)
      have hT := (TkAt.set4 (w := w2) (b := w.heap.size) HT2.out 2 T x a)
      have hB := tkW_below HB2.out 2 T x a
      change bodyPost _ _ _ _ _ (tkW w2 w.heap.size 2 T x a)
      change TkAt (tkW w2 w.heap.size 2 T x a) _ _ _ _ _ at hT
      generalize tkW w2 w.heap.size 2 T x a = W at hT hB ⊢
      obtain ⟨e0, e1, e2, e3, _⟩ := hT.cells
      exact bodyPost_ret (v := (.tuple #[tkV 2 T x a, .int .i64 (n : Nat), .int .i64 0] : Value)) (by simp [results, Tryz.results27, go_sem, e0, e1, e2, e3]) rfl ⟨rfl, hB⟩
end Go.Proofs.YtjanpaallealgaaGreatDoor.lex

namespace Go.Proofs.YtjanpaallealgaaGreatDoor.lex
open Go.RowKit
open flt (isD fv ofT str_size rofT rofE rOfText_any of_same)
open heap
open num (list_len drop_cons)
set_option linter.unusedVariables false
set_option linter.unusedSimpArgs false
set_option maxRecDepth 100000
attribute [local go_sem] run_store_float

set_option maxHeartbeats 4000000 in
theorem nx_quote (s : ByteArray) (a : Nat) (w : World) (ha : a < s.size) (hs : s.size ≤ 1000000000) (HL : Hid (∀ W, Calls Tryz.prog 44 #[.int .u8 (s[a].toNat : Int)] W fun e w' => e = .returned (.bool false) ∧ W = w')) (HD : Hid (∀ W, Calls Tryz.prog 45 #[.int .u8 (s[a].toNat : Int)] W fun e w' => e = .returned (.bool false) ∧ W = w')) (hq : ((s[a].toNat : Int) == 34) = true) (k : Int) (t : ByteArray) (x a2 : Nat) (p er : Int) (HQ : Hid (∀ W, Calls Tryz.prog 47 #[.string s, .int .i64 a] W fun e w' => e = .returned (.tuple #[tkV k t x a2, .int .i64 p, .int .i64 er]) ∧ Below W.heap.size W w')) :
    Calls Tryz.prog 27 #[.string s, .int .i64 a] w fun e w' => e = .returned (.tuple #[tkV k t x a2, .int .i64 p, .int .i64 er]) ∧ Below w.heap.size w w' := by
  go_enter Tryz.func27, Tryz.ntmps27
  go_wp2_with (first | (go_at_call 44; refine (HL.out _).mono ?_; rintro e w' ⟨rfl, rfl⟩) | (go_at_call 45; refine (HD.out _).mono ?_; rintro e w' ⟨rfl, rfl⟩))
  refine (HQ.out _).mono ?_; rintro e w2 ⟨rfl, hb2⟩
  have HT2 : Hid (TkAt w2 w.heap.size 0 ⟨#[]⟩ 0 0) := (nW_at w).below hb2
  have HB2 : Hid (Below w.heap.size w w2) := (nW_below w).trans (hb2.mono (by simp))
  clear hb2
  obtain ⟨d0, d1, d2, d3, g0, g1, g2, g3, hl1⟩ := HT2.out.cells
  go_wp2_with fail
  have hT := (TkAt.set4 (w := w2) (b := w.heap.size) HT2.out k t x a2)
  have hB := tkW_below HB2.out k t x a2
  change bodyPost _ _ _ _ _ (tkW w2 w.heap.size k t x a2)
  change TkAt (tkW w2 w.heap.size k t x a2) _ _ _ _ _ at hT
  generalize tkW w2 w.heap.size k t x a2 = W at hT hB ⊢
  obtain ⟨e0, e1, e2, e3, _⟩ := hT.cells
  exact bodyPost_ret (v := .tuple #[tkV k t x a2, .int .i64 p, .int .i64 er]) (by simp [results, Tryz.results27, go_sem, e0, e1, e2, e3]) rfl ⟨rfl, hB⟩
set_option maxHeartbeats 4000000 in
theorem nx_punct (s : ByteArray) (a : Nat) (w : World) (ha : a < s.size) (hs : s.size ≤ 1000000000) (HL : Hid (∀ W, Calls Tryz.prog 44 #[.int .u8 (s[a].toNat : Int)] W fun e w' => e = .returned (.bool false) ∧ W = w')) (HD : Hid (∀ W, Calls Tryz.prog 45 #[.int .u8 (s[a].toNat : Int)] W fun e w' => e = .returned (.bool false) ∧ W = w')) (hq : ((s[a].toNat : Int) == 34) = false) (b : Bool)
    (HP : Hid ((((s[a].toNat : Int) == 61) = false ∧ b = false) ∨ (((s[a].toNat : Int) == 61) = true ∧ s.size ≤ a + 1 ∧ b = false) ∨ (((s[a].toNat : Int) == 61) = true ∧ ∃ h : a + 1 < s.size, ((s[a + 1].toNat : Int) == 61) = b)))
    (T : ByteArray) (hT : (⟨#[123, 125, 40, 41, 59, 44, 61, 60, 43, 45, 42, 47, 37, 38, 33]⟩ : ByteArray) = T) (V : Value) (HV : Hid ((b = true → V = .tuple #[tkV 4 ⟨#[61, 61]⟩ 0 a, .int .i64 ((a : Int) + 2), .int .i64 0]) ∧ (b = false → (∀ k (h : k < T.size), ((T[k].toNat : Int) == (s[a].toNat : Int)) = true → V = .tuple #[tkV 4 (T.extract k (k + 1)) 0 a, .int .i64 ((a : Int) + 1), .int .i64 0]) ∧ ((∀ k (h : k < T.size), ((T[k].toNat : Int) == (s[a].toNat : Int)) = false) → V = badV 1800)))) :
    Calls Tryz.prog 27 #[.string s, .int .i64 a] w fun e w' => e = .returned (V) ∧ Below w.heap.size w w' := by
  have hz : T.size = 15 := by rw [← hT]; rfl
  go_enter Tryz.func27, Tryz.ntmps27
  go_upto_region 22 with (first | (go_at_call 44; refine (HL.out _).mono ?_; rintro e w' ⟨rfl, rfl⟩) | (go_at_call 45; refine (HD.out _).mono ?_; rintro e w' ⟨rfl, rfl⟩))
  go_cut [157] from 146 to 156 (fun s157 wx => s157 = .bool b ∧ wx = nW w)
  case first =>
    clear HV
    rcases HP.out with ⟨h1, rfl⟩ | ⟨h1, h2, rfl⟩ | ⟨h1, h2, rfl⟩
    · clear HP
      go_wp2_with fail
      go_meet
      exact ⟨rfl, rfl⟩
    · clear HP
      have hl : decide ((a : Int) + 1 < s.size) = false := decide_eq_false (by omega)
      go_wp2_with fail
      go_meet
      exact ⟨rfl, rfl⟩
    · clear HP
      have hl : decide ((a : Int) + 1 < s.size) = true := decide_eq_true (by omega)
      go_wp2_with fail
      go_meet
      exact ⟨rfl, rfl⟩
  case rest =>
    obtain ⟨rfl, rfl⟩ := hcut
    clear HP
    have HN0 := Lib.hid (nW_at w)
    have HB0 := Lib.hid (nW_below w)
    generalize nW w = w2 at *
    obtain ⟨d0, d1, d2, d3, g0, g1, g2, g3, hl1⟩ := HN0.out.cells
    cases b with
    | true =>
      have HVV := Lib.hid (HV.out.1 rfl)
      clear HV
      go_wp2_with fail
      have hT := (TkAt.set4 (w := w2) (b := w.heap.size) HN0.out 4 ⟨#[61, 61]⟩ 0 a)
      have hB := tkW_below HB0.out 4 ⟨#[61, 61]⟩ 0 a
      change bodyPost _ _ _ _ _ (tkW w2 w.heap.size 4 ⟨#[61, 61]⟩ 0 a)
      change TkAt (tkW w2 w.heap.size 4 ⟨#[61, 61]⟩ 0 a) _ _ _ _ _ at hT
      generalize tkW w2 w.heap.size 4 ⟨#[61, 61]⟩ 0 a = W at hT hB ⊢
      obtain ⟨e0, e1, e2, e3, _⟩ := hT.cells
      exact bodyPost_ret (v := .tuple #[tkV 4 ⟨#[61, 61]⟩ 0 a, .int .i64 ((a : Int) + 2), .int .i64 0]) (by simp [results, Tryz.results27, go_sem, e0, e1, e2, e3]) rfl ⟨by rw [HVV.out], hB⟩
    | false =>
      have HV1 := Lib.hid (HV.out.2 rfl).1
      have HV2 := Lib.hid (HV.out.2 rfl).2
      clear HV
      go_wp2_with fail
      rw [hT]
      clear hT
      go_loop [12] (fun i => ∃ k : Nat, i = .int .i64 k ∧ k ≤ T.size ∧ Hid (∀ j (h : j < T.size), j < k → ((T[j].toNat : Int) == (s[a].toNat : Int)) = false)) (fun i => T.size - (intOf i).toNat)
      case atStart => exact ⟨0, rfl, by omega, fun j _ hj => absurd hj (Nat.not_lt_zero _)⟩
      case round =>
        obtain ⟨k, rfl, hk, HNO⟩ := hrel
        by_cases hlt : k < T.size
        · have hl15 : decide ((k : Int) < T.size) = true := decide_eq_true (by omega)
          cases hh : ((T[k].toNat : Int) == (s[a].toNat : Int)) with
          | true =>
            have HVV := Lib.hid (HV1.out k hlt hh)
            clear HV1 HV2 HNO
            go_wp2_with fail
            have hT := (TkAt.set4 (w := w2) (b := w.heap.size) HN0.out 4 (T.extract k (k + 1)) 0 a)
            have hB := tkW_below HB0.out 4 (T.extract k (k + 1)) 0 a
            change bodyPost _ _ _ _ _ (tkW w2 w.heap.size 4 (T.extract k (k + 1)) 0 a)
            change TkAt (tkW w2 w.heap.size 4 (T.extract k (k + 1)) 0 a) _ _ _ _ _ at hT
            generalize tkW w2 w.heap.size 4 (T.extract k (k + 1)) 0 a = W at hT hB ⊢
            obtain ⟨e0, e1, e2, e3, _⟩ := hT.cells
            exact bodyPost_ret (v := .tuple #[tkV 4 (T.extract k (k + 1)) 0 a, .int .i64 ((a : Int) + 1), .int .i64 0]) (by simp [results, Tryz.results27, go_sem, e0, e1, e2, e3]) rfl ⟨by rw [HVV.out], hB⟩
          | false =>
            have HN : Hid (∀ j (h : j < T.size), j < k + 1 → ((T[j].toNat : Int) == (s[a].toNat : Int)) = false) := by
              intro j h hj
              rcases Nat.lt_succ_iff_lt_or_eq.1 hj with h2 | rfl
              · exact HNO.out j h h2
              · exact hh
            go_wp2_with fail
            go_round
            case rel => exact ⟨k + 1, by go_num, by omega, HN⟩
            case measure => simp [intOf]; omega
        · have HVV := Lib.hid (HV2.out (fun j h => HNO.out j h (by omega)))
          clear HV1 HV2 HNO
          go_wp2_with fail
          have hT := (TkAt.set4 (w := w2) (b := w.heap.size) HN0.out 0 ⟨#[]⟩ 0 0)
          have hB := tkW_below HB0.out 0 ⟨#[]⟩ 0 0
          change bodyPost _ _ _ _ _ (tkW w2 w.heap.size 0 ⟨#[]⟩ 0 0)
          change TkAt (tkW w2 w.heap.size 0 ⟨#[]⟩ 0 0) _ _ _ _ _ at hT
          generalize tkW w2 w.heap.size 0 ⟨#[]⟩ 0 0 = W at hT hB ⊢
          obtain ⟨e0, e1, e2, e3, _⟩ := hT.cells
          exact bodyPost_ret (v := badV 1800) (by simp [results, Tryz.results27, go_sem, e0, e1, e2, e3]) rfl ⟨by rw [HVV.out], hB⟩
theorem nx_bad {a : Nat} {t : List UInt8} {e : Int} (h : tok t = .error e) : nxV a t = badV e := by unfold nxV; rw [h]
theorem nx_ok {a : Nat} {t u : List UInt8} {k : Int} {x n : Nat} (h : tok t = .ok (k, u, x, n)) : nxV a t = .tuple #[tkV k ⟨u.toArray⟩ x a, .int .i64 ((a + n : Nat) : Int), .int .i64 0] := by unfold nxV; rw [h]
theorem lit_sign (c : UInt8) : signB c = true ↔ ∃ k, ∃ h : k < (⟨#[123, 125, 40, 41, 59, 44, 61, 60, 43, 45, 42, 47, 37, 38, 33]⟩ : ByteArray).size, (⟨#[123, 125, 40, 41, 59, 44, 61, 60, 43, 45, 42, 47, 37, 38, 33]⟩ : ByteArray)[k] = c := by
  unfold signB
  rw [List.contains_iff_mem]
  constructor
  · intro h
    obtain ⟨i, hi, rfl⟩ := List.getElem_of_mem h
    exact ⟨i, hi, rfl⟩
  · rintro ⟨k, h, rfl⟩
    exact List.getElem_mem (l := [123, 125, 40, 41, 59, 44, 61, 60, 43, 45, 42, 47, 37, 38, 33]) h
theorem u8_beq {x y : UInt8} : ((x.toNat : Int) == (y.toNat : Int)) = (x == y) := by
  rw [Bool.eq_iff_iff, beq_iff_eq, beq_iff_eq, ← UInt8.toNat_inj]
  omega
theorem tok_rest {t : List UInt8} (hl : letB (t.getD 0 0) = false) (hd : isD (t.getD 0 0) = false) (hq : t.getD 0 0 ≠ 34) : tok t = if t.getD 0 0 = 61 ∧ 1 < t.length ∧ t.getD 1 0 = 61 then .ok (4, [61, 61], 0, 2) else if signB (t.getD 0 0) then .ok (4, [t.getD 0 0], 0, 1) else .error 1800 := by
  unfold tok; rw [if_neg (by rw [hl]; exact Bool.false_ne_true), if_neg (by rw [hd]; exact Bool.false_ne_true), if_neg hq]
theorem tok_name' {t : List UInt8} (hl : letB (t.getD 0 0) = true) : tok t = if 32 < runB wordB t then .error 1800 else .ok (1, t.take (runB wordB t), 0, runB wordB t) := by
  unfold tok; rw [if_pos hl]
theorem tok_num' {t : List UInt8} (hl : letB (t.getD 0 0) = false) (hd : isD (t.getD 0 0) = true) : tok t = match ofT (t.take (numEnd t)) with
    | none => .error 1802
    | some x => if decide (numEnd t < t.length) && (letB (t.getD (numEnd t) 0) || t.getD (numEnd t) 0 == 46) then .error 1802 else .ok (2, t.take (numEnd t), x, numEnd t) := by
  unfold tok; rw [if_neg (by rw [hl]; exact Bool.false_ne_true), if_pos hd]; rfl
theorem tok_str' {t : List UInt8} (hl : letB (t.getD 0 0) = false) (hd : isD (t.getD 0 0) = false) (hq : t.getD 0 0 = 34) : tok t = match qtS false (t.drop 1) with
    | none => .error 1801
    | some x => if 1024 < x.1.length then .error 1801 else .ok (3, x.1, 0, x.2 + 1) := by
  unfold tok; rw [if_neg (by rw [hl]; exact Bool.false_ne_true), if_neg (by rw [hd]; exact Bool.false_ne_true), if_pos hq]; rfl
set_option maxHeartbeats 1000000 in
theorem next_any (s : ByteArray) (a : Nat) (w : World) (ha : a < s.size) (hs : s.size ≤ 1000000000) :
    Calls Tryz.prog 27 #[.string s, .int .i64 a] w fun e w' => e = .returned (nxV a (s.data.toList.drop a)) ∧ Below w.heap.size w w' := by
  have hlen := list_len s
  have hLl : (s.data.toList.drop a).length = s.size - a := by rw [List.length_drop, hlen]
  have ht0 : (s.data.toList.drop a).getD 0 0 = s[a] := getD_at s a 0 ha
  have HL : Hid (∀ W, Calls Tryz.prog 44 #[.int .u8 (s[a].toNat : Int)] W fun e w' => e = .returned (.bool (letB s[a])) ∧ W = w') := fun W => rlet_any s[a] W
  have HD : Hid (∀ W, Calls Tryz.prog 45 #[.int .u8 (s[a].toNat : Int)] W fun e w' => e = .returned (.bool (isD s[a])) ∧ W = w') := fun W => rdig_any s[a] W
  cases hl : letB s[a] with
  | true =>
    rw [hl] at HL
    have ht := tok_name' (t := s.data.toList.drop a) (by rw [ht0]; exact hl)
    refine nx_name s a w ha hs HL hl ?_
    intro n hn
    rw [hn] at ht
    refine ⟨fun h => ?_, fun h => ?_⟩
    · rw [if_pos h] at ht; exact nx_bad ht
    · rw [if_neg h] at ht; rw [ext_mid]; exact nx_ok ht
  | false =>
    rw [hl] at HL
    cases hd : isD s[a] with
    | true =>
      rw [hd] at HD
      have ht := tok_num' (t := s.data.toList.drop a) (by rw [ht0]; exact hl) (by rw [ht0]; exact hd)
      have hn0 : runB isD (s.data.toList.drop a) ≤ s.size - a := by rw [← hLl]; exact runB_le _ _
      have hnn : numEnd (s.data.toList.drop a) ≤ s.size - a := by rw [← hLl]; exact numEnd_le _
      have hst := rb_step isD s a ha hd
      have hdd : ∀ j, (s.data.toList.drop a).drop j = s.data.toList.drop (a + j) := fun j => by rw [List.drop_drop]
      have hne : numEnd (s.data.toList.drop a) = if decide (runB isD (s.data.toList.drop a) + 1 < (s.data.toList.drop a).length) && (s.data.toList.drop a).getD (runB isD (s.data.toList.drop a)) 0 == 46 && isD ((s.data.toList.drop a).getD (runB isD (s.data.toList.drop a) + 1) 0) then runB isD (s.data.toList.drop a) + 1 + runB isD ((s.data.toList.drop a).drop (runB isD (s.data.toList.drop a) + 1)) else runB isD (s.data.toList.drop a) := rfl
      rw [hdd] at hne
      have HX : Hid (∀ W, Calls Tryz.prog 46 #[.string ⟨((s.data.toList.drop a).take (numEnd (s.data.toList.drop a))).toArray⟩] W fun e w' => e = .returned (rofE ((s.data.toList.drop a).take (numEnd (s.data.toList.drop a)))) ∧ Below W.heap.size W w') := fun W => rOfText_any _ W (by rw [List.length_take]; omega)
      generalize hm : runB isD (s.data.toList.drop a) = m at *
      generalize hne0 : numEnd (s.data.toList.drop a) = ne at *
      obtain ⟨b, hb⟩ : ∃ b, (decide (m + 1 < (s.data.toList.drop a).length) && (s.data.toList.drop a).getD m 0 == 46 && isD ((s.data.toList.drop a).getD (m + 1) 0)) = b := ⟨_, rfl⟩
      rw [hb] at hne
      have hnx : s.extract a (a + ne) = ⟨((s.data.toList.drop a).take ne).toArray⟩ := ext_mid s a ne
      have HQ : Hid ((b = false ∧ a + ne = a + m) ∨ (b = true ∧ a + m + 1 < s.size ∧ a + m + 1 + runB isD (s.data.toList.drop (a + m + 1)) = a + ne)) := by
        cases b with
        | false => exact .inl ⟨rfl, by rw [hne]; rfl⟩
        | true =>
          simp only [Bool.and_eq_true, decide_eq_true_eq] at hb
          refine .inr ⟨rfl, by have := hb.1.1; omega, ?_⟩
          rw [hne, if_pos rfl, show a + (m + 1) = a + m + 1 by omega]; omega
      have HP : Hid ((s.size ≤ a + m + 1 ∧ b = false) ∨ (∃ h : a + m + 1 < s.size, ((s[a + m].toNat : Int) == 46) = false ∧ b = false) ∨
          (∃ h : a + m + 1 < s.size, ((s[a + m].toNat : Int) == 46) = true ∧ Hid (∀ W, Calls Tryz.prog 45 #[.int .u8 (s[a + m + 1].toNat : Int)] W fun e w' => e = .returned (.bool b) ∧ W = w'))) := by
        by_cases h1 : a + m + 1 < s.size
        · have e1 := getD_at s a m (by omega)
          have e2 := getD_at s a (m + 1) (by omega)
          rw [e1, e2, decide_eq_true (show m + 1 < (s.data.toList.drop a).length by omega), Bool.true_and] at hb
          by_cases h2 : s[a + m] = 46
          · rw [h2] at hb
            refine .inr (.inr ⟨h1, by rw [h2]; rfl, ?_⟩)
            intro W
            have := rdig_any s[a + m + 1] W
            rw [show isD s[a + m + 1] = b by rw [← hb]; rfl] at this
            exact this
          · rw [beq_eq_false_iff_ne.2 h2, Bool.false_and] at hb
            refine .inr (.inl ⟨h1, ?_, hb.symm⟩)
            rw [beq_eq_false_iff_ne]
            intro e
            exact h2 (UInt8.toNat_inj.1 (by show s[a + m].toNat = 46; omega))
        · rw [decide_eq_false (by omega), Bool.false_and, Bool.false_and] at hb
          exact .inl ⟨by omega, hb.symm⟩
      have HSuf : ∀ x, ofT ((s.data.toList.drop a).take ne) = some x → Hid ((s.size ≤ a + ne ∧ nxV a (s.data.toList.drop a) = .tuple #[tkV 2 ⟨((s.data.toList.drop a).take ne).toArray⟩ x a, .int .i64 ((a + ne : Nat) : Int), .int .i64 0]) ∨
          (∃ h : a + ne < s.size, Hid (∀ W, Calls Tryz.prog 44 #[.int .u8 (s[a + ne].toNat : Int)] W fun e w' => e = .returned (.bool true) ∧ W = w') ∧ nxV a (s.data.toList.drop a) = badV 1802) ∨
          (∃ h : a + ne < s.size, Hid (∀ W, Calls Tryz.prog 44 #[.int .u8 (s[a + ne].toNat : Int)] W fun e w' => e = .returned (.bool false) ∧ W = w') ∧ ((s[a + ne].toNat : Int) == 46) = true ∧ nxV a (s.data.toList.drop a) = badV 1802) ∨
          (∃ h : a + ne < s.size, Hid (∀ W, Calls Tryz.prog 44 #[.int .u8 (s[a + ne].toNat : Int)] W fun e w' => e = .returned (.bool false) ∧ W = w') ∧ ((s[a + ne].toNat : Int) == 46) = false ∧ nxV a (s.data.toList.drop a) = .tuple #[tkV 2 ⟨((s.data.toList.drop a).take ne).toArray⟩ x a, .int .i64 ((a + ne : Nat) : Int), .int .i64 0])) := by
        intro x hx
        rw [hx] at ht
        simp only at ht
        by_cases h1 : a + ne < s.size
        · rw [decide_eq_true (show ne < (s.data.toList.drop a).length by omega), Bool.true_and, getD_at s a ne h1] at ht
          have hlt := fun W => rlet_any s[a + ne] W
          cases hlx : letB s[a + ne] with
          | true =>
            rw [hlx] at hlt
            rw [hlx, Bool.true_or, if_pos rfl] at ht
            exact .inr (.inl ⟨h1, hlt, nx_bad ht⟩)
          | false =>
            rw [hlx] at hlt
            rw [hlx, Bool.false_or] at ht
            by_cases h2 : s[a + ne] = 46
            · rw [if_pos (by rw [h2]; rfl)] at ht
              exact .inr (.inr (.inl ⟨h1, hlt, by rw [h2]; rfl, nx_bad ht⟩))
            · rw [if_neg (by rw [beq_eq_false_iff_ne.2 h2]; exact Bool.false_ne_true)] at ht
              refine .inr (.inr (.inr ⟨h1, hlt, ?_, nx_ok ht⟩))
              rw [beq_eq_false_iff_ne]
              intro e
              exact h2 (UInt8.toNat_inj.1 (by show s[a + ne].toNat = 46; omega))
        · rw [decide_eq_false (by omega), Bool.false_and, if_neg Bool.false_ne_true] at ht
          exact .inl ⟨by omega, nx_ok ht⟩
      have hrof : rofE ((s.data.toList.drop a).take ne) = match ofT ((s.data.toList.drop a).take ne) with
        | some a => .tuple #[fv a, .int .i64 0]
        | none => .tuple #[fv 0, .int .i64 200] := by unfold rofE; rw [of_same]; cases ofT ((s.data.toList.drop a).take ne) <;> rfl
      rw [hrof] at HX
      cases hx : ofT ((s.data.toList.drop a).take ne) with
      | none =>
        rw [hx] at HX ht
        exact nx_num s a w ha hs HL HD (a + m) (a + ne) b (by rw [hm]) (by rw [← hm] at hst; omega) (by omega) (by omega) HP HQ _ hnx (by omega) 0 200 HX _ (.inl ⟨by decide, nx_bad ht⟩)
      | some x =>
        rw [hx] at HX
        refine nx_num s a w ha hs HL HD (a + m) (a + ne) b (by rw [hm]) (by rw [← hm] at hst; omega) (by omega) (by omega) HP HQ _ hnx (by omega) x 0 HX _ (.inr ?_)
        rcases (HSuf x hx).out with ⟨h1, h2⟩ | ⟨h1, h2, h3⟩ | ⟨h1, h2, h3, h4⟩ | ⟨h1, h2, h3, h4⟩
        · exact .inl ⟨rfl, h1, h2⟩
        · exact .inr (.inl ⟨rfl, h1, h2, h3⟩)
        · exact .inr (.inr (.inl ⟨rfl, h1, h2, h3, h4⟩))
        · exact .inr (.inr (.inr ⟨rfl, h1, h2, h3, h4⟩))
    | false =>
      rw [hd] at HD
      cases hq : ((s[a].toNat : Int) == 34) with
      | true =>
        have e34 : s[a] = 34 := u8_eq (n := 34) (by decide) hq
        have ht := tok_str' (t := s.data.toList.drop a) (by rw [ht0]; exact hl) (by rw [ht0]; exact hd) (by rw [ht0]; exact e34)
        rw [List.drop_drop] at ht
        have HQ : Hid (∀ W, Calls Tryz.prog 47 #[.string s, .int .i64 a] W fun e w' => e = .returned (quV s a) ∧ Below W.heap.size W w') := fun W => quoted_any s a W ha hs
        cases hqt : qtS false (s.data.toList.drop (a + 1)) with
        | none =>
          rw [hqt] at ht
          rw [quV_none hqt] at HQ
          rw [nx_bad ht]
          exact nx_quote s a w ha hs HL HD hq _ _ _ _ _ _ HQ
        | some y =>
          rw [hqt] at ht
          simp only at ht
          have hqv : quV s a = if 1024 < y.1.length then badV 1801 else .tuple #[tkV 3 ⟨y.1.toArray⟩ 0 a, .int .i64 ((a + 1 + y.2 : Nat) : Int), .int .i64 0] := by unfold quV; rw [hqt]
          by_cases hb : 1024 < y.1.length
          · rw [if_pos hb] at ht hqv
            rw [hqv] at HQ
            rw [nx_bad ht]
            exact nx_quote s a w ha hs HL HD hq _ _ _ _ _ _ HQ
          · rw [if_neg hb] at ht hqv
            rw [hqv] at HQ
            rw [nx_ok ht, show a + (y.2 + 1) = a + 1 + y.2 by omega]
            exact nx_quote s a w ha hs HL HD hq _ _ _ _ _ _ HQ
      | false =>
        have n34 : s[a] ≠ 34 := u8_ne (n := 34) (by decide) hq
        have ht := tok_rest (t := s.data.toList.drop a) (by rw [ht0]; exact hl) (by rw [ht0]; exact hd) (by rw [ht0]; exact n34)
        rw [ht0, hLl] at ht
        have e61 : ((s[a].toNat : Int) == 61) = (s[a] == 61) := u8_beq (x := s[a]) (y := 61)
        refine nx_punct s a w ha hs HL HD hq (decide (s[a] = 61 ∧ 1 < s.size - a ∧ (s.data.toList.drop a).getD 1 0 = 61)) ?_ _ rfl _ ⟨fun h => ?_, fun h => ⟨fun k hk hT => ?_, fun hno => ?_⟩⟩
        · by_cases h1 : s[a] = 61
          · by_cases h2 : a + 1 < s.size
            · refine .inr (.inr ⟨by rw [e61, h1]; rfl, h2, ?_⟩)
              have e3 : ((s[a + 1].toNat : Int) == 61) = (s[a + 1] == 61) := u8_beq (x := s[a + 1]) (y := 61)
              rw [getD_at s a 1 h2, e3]
              by_cases h3 : s[a + 1] = 61
              · rw [h3, decide_eq_true ⟨h1, by omega, rfl⟩]; rfl
              · rw [beq_eq_false_iff_ne.2 h3, decide_eq_false (fun h => h3 h.2.2)]
            · exact .inr (.inl ⟨by rw [e61, h1]; rfl, by omega, decide_eq_false (fun h => by omega)⟩)
          · exact .inl ⟨by rw [e61]; exact beq_eq_false_iff_ne.2 h1, decide_eq_false (fun h => h1 h.1)⟩
        · rw [if_pos (of_decide_eq_true h)] at ht
          exact nx_ok ht
        · rw [if_neg (of_decide_eq_false h)] at ht
          rw [u8_beq, beq_iff_eq] at hT
          rw [if_pos ((lit_sign s[a]).2 ⟨k, hk, hT⟩)] at ht
          rw [nx_ok ht, ← hT]
          have e1 : (⟨#[123, 125, 40, 41, 59, 44, 61, 60, 43, 45, 42, 47, 37, 38, 33]⟩ : ByteArray).extract k (k + 1) = ⟨[(⟨#[123, 125, 40, 41, 59, 44, 61, 60, 43, 45, 42, 47, 37, 38, 33]⟩ : ByteArray)[k]].toArray⟩ := by
            rw [ext_mid, drop_cons _ k hk]; rfl
          rw [e1]; rfl
        · rw [if_neg (of_decide_eq_false h)] at ht
          rw [if_neg] at ht
          · exact nx_bad ht
          · rw [lit_sign]
            rintro ⟨k, hk, hT⟩
            have := hno k hk
            rw [u8_beq, hT] at this
            simp at this
end Go.Proofs.YtjanpaallealgaaGreatDoor.lex

namespace Go.Proofs.YtjanpaallealgaaGreatDoor.lex
open Go.RowKit
open heap
open num (list_len drop_cons)
set_option linter.unusedVariables false
set_option linter.unusedSimpArgs false
set_option maxRecDepth 100000
attribute [local go_sem] run_store_float

theorem At.bad1 {L : List UInt8} {ts : List Tk} {k f : Nat} {e : Int} (h : At L ts k f) (h0 : L.drop k ≠ []) (ht : tok (L.drop k) = .error e) : (scanL L).1 = ts := by
  cases f with
  | zero => have := h.fuel; omega
  | succ f =>
    have := h.one
    rw [scanF, if_neg h0, ht] at this
    simpa using this.symm
theorem round_app2 (w w2 : World) (v : Value) (ts : List Tk) (t : Tk) (hrow : TRow w2 w.heap.size v ts) (hbl : Below w.heap.size w w2) (hn : ts.length ≤ 100000) :
    ∃ v2 w5, (Builtin.append_ #[22, 22] 22 #[v, .slice (some ⟨w2.heap.size + 1, 0, none⟩) 1 1]).run Tryz.prog ((w2.alloc (tokO t)).alloc (tokO t)) = .ok v2 w5 ∧ TRow w5 w.heap.size v2 (ts ++ [t]) ∧ Below w.heap.size w w5 := by
  have hz : ((w2.alloc (tokO t)).alloc (tokO t)).heap.size = w2.heap.size + 1 + 1 := by simp
  have n1 : (w2.alloc (tokO t)).heap.size = w2.heap.size + 1 := by simp
  have b2 : Below w2.heap.size w2 ((w2.alloc (tokO t)).alloc (tokO t)) := ((Below.refl _ _).alloc (Nat.le_refl _) _).alloc (by simp) _
  have g3 : ((w2.alloc (tokO t)).alloc (tokO t)).heap[w2.heap.size + 1]? = some (tokO t) := by
    have := blk_new (w2.alloc (tokO t)) (tokO t)
    rw [n1] at this
    exact this
  obtain ⟨v2, w5, h1, h2, h3⟩ := app_tok w.heap.size (w2.heap.size + 1) v ts t _ (hrow.below b2) g3 (by rw [hz]; have := hbl.size; omega) hn
  refine ⟨v2, w5, h1, h2, (hbl.trans (b2.mono hbl.size)).trans (h3.below ?_ (fun g hg => (hrow.own_lt g hg).1))⟩
  rw [hz]; have := hbl.size; omega
theorem round_app1 (w w2 : World) (v : Value) (ts : List Tk) (t : Tk) (hrow : TRow w2 w.heap.size v ts) (hbl : Below w.heap.size w w2) (hn : ts.length ≤ 100000) :
    ∃ v2 w5, (Builtin.append_ #[22, 22] 22 #[v, .slice (some ⟨w2.heap.size, 0, none⟩) 1 1]).run Tryz.prog (w2.alloc (tokO t)) = .ok v2 w5 ∧ TRow w5 w.heap.size v2 (ts ++ [t]) ∧ Below w.heap.size w w5 := by
  have b2 : Below w2.heap.size w2 (w2.alloc (tokO t)) := (Below.refl _ _).alloc (Nat.le_refl _) _
  obtain ⟨v2, w5, h1, h2, h3⟩ := app_tok w.heap.size w2.heap.size v ts t _ (hrow.below b2) (blk_new _ _) (by simp; have := hbl.size; omega) hn
  refine ⟨v2, w5, h1, h2, (hbl.trans (b2.mono hbl.size)).trans (h3.below ?_ (fun g hg => (hrow.own_lt g hg).1))⟩
  have := hbl.size; simp; omega
set_option maxHeartbeats 4000000 in
theorem Scan_any (s : ByteArray) (w : World) (hs : s.size ≤ 1000000000) :
    Calls Tryz.prog 12 #[.string s] w fun e w' => ∃ v, e = .returned (.tuple #[v, .int .i64 (scanL s.data.toList).2.1, .int .i64 (scanL s.data.toList).2.2]) ∧ TRow w' w.heap.size v (scanL s.data.toList).1 ∧ Below w.heap.size w w' := by
  have hlen := list_len s
  by_cases hbig : 16384 < s.size
  · have HS : Hid (scanL s.data.toList = ([], 0, 1803)) := by unfold Hid scanL; rw [if_pos (by rw [hlen]; exact hbig)]
    have hd : decide (16384 < (s.size : Int)) = true := decide_eq_true (by omega)
    rw [HS.out]
    go_enter Tryz.func12, Tryz.ntmps12
    go_wp2_with fail
    exact bodyPost_ret (v := .tuple #[.slice none 0 0, .int .i64 0, .int .i64 1803]) (by simp [results, Tryz.results12, go_sem]) rfl ⟨_, rfl, TRow.nil _ _, Below.refl _ _⟩
  · have hd : decide (16384 < (s.size : Int)) = false := decide_eq_false (by omega)
    have HAT := Lib.hid (At.start (L := s.data.toList) (by rw [hlen]; exact hbig))
    have HBK : Hid (∀ W, Calls Tryz.prog 26 #[.string s, .int .i64 0] W fun e w' => e = .returned (.int .i64 (skp false s.data.toList : Nat)) ∧ W = w') := fun W => by
      have := rblanks_any s 0 W (Nat.zero_le _) (by omega)
      rw [Nat.zero_add, List.drop_zero] at this
      exact this
    generalize hLx : scanL s.data.toList = lx at *
    have HLX := Lib.hid hLx
    clear hLx
    go_enter Tryz.func12, Tryz.ntmps12
    go_wp2_with (go_at_call 26; refine (HBK.out _).mono ?_; rintro e w' ⟨rfl, rfl⟩)
    go_loopw [5, 6] (fun vo vi wr => ∃ (ts : List Tk) (k f : Nat), vi = .int .i64 k ∧ Hid (At s.data.toList ts k f ∧ TRow wr w.heap.size vo ts ∧ Below w.heap.size w wr)) (fun _ vi _ => s.size - (intOf vi).toNat)
    case atStart => exact ⟨[], _, _, rfl, HAT.out, TRow.nil _ _, Below.refl _ _⟩
    case round =>
      obtain ⟨ts, k, f, rfl, hr⟩ := hrel
      obtain ⟨hat, hrow, hbl⟩ := hr.out
      obtain ⟨a1, c1', rfl⟩ := hrow.slice
      have hk := hat.le
      have hfew := hat.few
      rw [hlen] at hk
      have HA := Lib.hid hat
      have HROW := Lib.hid hrow
      have HBL := Lib.hid hbl
      clear hr hat hrow hbl
      by_cases hlt : k < s.size
      · have h0 := drop_ne s k hlt
        have HNX := Lib.hid (next_any s k wr hlt (by omega))
        go_wp2_with fail
        refine (HNX.out).mono ?_; rintro e w2 ⟨rfl, hb2⟩
        have HROW2 := Lib.hid (HROW.out.below hb2)
        have HBL2 := Lib.hid (HBL.out.trans (hb2.mono HBL.out.size))
        have hw2 : w.heap.size ≤ w2.heap.size := Nat.le_trans HBL.out.size hb2.size
        clear hb2 HNX HROW HBL
        cases ht : tok (s.data.toList.drop k) with
        | error er =>
          have he2 := HA.out.bad h0 ht
          have he1 := HA.out.bad1 h0 ht
          have her := tok_err ht
          have her2 : (er == 0) = false := beq_eq_false_iff_ne.2 her
          rw [nx_bad ht]
          have HE2 : Hid (lx = (ts, k, er)) := by unfold Hid; rw [← HLX.out]; exact Prod.ext he1 he2
          clear he2 he1 ht h0
          go_wp2_with fail
          refine bodyPost_ret (v := .tuple #[.slice a1 ts.length c1', .int .i64 k, .int .i64 er]) (by simp [results, Tryz.results12, go_sem]) rfl ⟨.slice a1 ts.length c1', by rw [HE2.out], ?_, HBL2.out.alloc hw2 _⟩
          rw [HE2.out]
          exact HROW2.out.below ((Below.refl _ _).alloc (Nat.le_refl _) _)
        | ok x =>
          obtain ⟨kd, u, x, n⟩ := x
          obtain ⟨hkn, hn1, f', hnx⟩ := HA.out.next h0 ht
          rw [hlen] at hkn
          rw [nx_ok ht]
          obtain ⟨v2, w5, hrun, hrow5, hbl5⟩ := round_app2 w w2 _ ts ⟨kd, u, x, k⟩ HROW2.out HBL2.out (by omega)
          have HRUN : Hid ((Builtin.append_ #[22, 22] 22 #[.slice a1 ts.length c1', .slice (some ⟨w2.heap.size + 1, 0, none⟩) 1 1]).run Tryz.prog ((w2.alloc (.cells #[.int .i64 kd, .string ⟨u.toArray⟩, .float .f64 x, .int .i64 k] 38)).alloc (.cells #[.int .i64 kd, .string ⟨u.toArray⟩, .float .f64 x, .int .i64 k] 38)) = .ok v2 w5) := hrun
          have HROW5 := Lib.hid hrow5
          have HBL5 := Lib.hid hbl5
          have HN := Lib.hid hnx
          have hbn : ∀ W, Calls Tryz.prog 26 #[.string s, .int .i64 ((k + n : Nat) : Int)] W fun e w' => e = .returned (.int .i64 ((k + n + skp false (s.data.toList.drop (k + n)) : Nat) : Int)) ∧ W = w' := fun W => rblanks_any s (k + n) W hkn (by omega)
          generalize hK : k + n + skp false (s.data.toList.drop (k + n)) = k3 at *
          have hk3 : k + n ≤ k3 := by omega
          have e5 : (((k + n : Nat) : Int)) = (k : Int) + n := by omega
          rw [e5] at hbn
          have HBN := Lib.hid hbn
          clear hrun hrow5 hbl5 hnx ht h0 hbn hK
          go_wp2_with (first | (at_builtin; refine reg.wpList_append rfl rfl rfl rfl rfl HRUN.out ?_) | (go_at_call 26; refine (HBN.out _).mono ?_; rintro e w' ⟨rfl, rfl⟩))
          go_roundw
          case rel => exact ⟨_, k3, _, rfl, HN.out, HROW5.out, HBL5.out⟩
          case measure =>
            have := HN.out.le
            simp [intOf]; omega
      · have h0 : s.data.toList.drop k = [] := List.drop_eq_nil_of_le (by omega)
        obtain ⟨he1, he2⟩ := HA.out.end' h0
        have hks : k = s.size := by omega
        obtain ⟨v2, w5, hrun, hrow5, hbl5⟩ := round_app1 w wr _ ts ⟨0, [], 0, k⟩ HROW.out HBL.out (by omega)
        have HRUN : Hid ((Builtin.append_ #[22, 22] 22 #[.slice a1 ts.length c1', .slice (some ⟨wr.heap.size, 0, none⟩) 1 1]).run Tryz.prog (wr.alloc (.cells #[.int .i64 0, .string ⟨#[]⟩, .float .f64 0, .int .i64 (s.size : Nat)] 38)) = .ok v2 w5) := by
          unfold Hid; rw [← hks]; exact hrun
        have HROW5 := Lib.hid hrow5
        have HBL5 := Lib.hid hbl5
        have HE : Hid (lx = (ts ++ [⟨0, [], 0, k⟩], 0, 0)) := by
          unfold Hid; rw [← HLX.out]; exact Prod.ext he1 he2
        clear he1 he2 h0 hrun hrow5 hbl5
        go_wp2_with (at_builtin; refine reg.wpList_append rfl rfl rfl rfl rfl HRUN.out ?_)
        refine bodyPost_ret (v := .tuple #[v2, .int .i64 0, .int .i64 0]) (by simp [results, Tryz.results12, go_sem]) rfl ⟨v2, by rw [HE.out]; rfl, ?_, HBL5.out⟩
        rw [HE.out]; exact HROW5.out
/-- The tokens of a text without a fault. -/
def okT (x : List Tk × Nat × Int) : List Tk := if x.2.2 = 0 then x.1 else []
set_option maxHeartbeats 1000000 in
theorem rTokens_any (s : ByteArray) (w : World) (hs : s.size ≤ 1000000000) :
    Calls Tryz.prog 5 #[.string s] w fun e w' => ∃ v, e = .returned (.tuple #[v, .int .i64 (scanL s.data.toList).2.1, .int .i64 (scanL s.data.toList).2.2]) ∧ TRow w' w.heap.size v (okT (scanL s.data.toList)) ∧ Below w.heap.size w w' := by
  have HSC := Lib.hid (Scan_any s w hs)
  have hz : (scanL s.data.toList).2.2 = 0 → (scanL s.data.toList).2.1 = 0 := by
    unfold scanL
    split
    · intro h; exact absurd h (by decide)
    · generalize (s.data.toList.length + 1) = f
      generalize s.data.toList.drop (skp false s.data.toList) = t
      generalize skp false s.data.toList = a
      induction f generalizing t a with
      | zero => intro _; rfl
      | succ f ih =>
        rw [scanF]
        split
        · intro _; rfl
        · split
          · rename_i e he
            intro h; exact absurd h (tok_err he)
          · exact ih _ _
  generalize scanL s.data.toList = lx at *
  obtain ⟨ts, p, er⟩ := lx
  simp only at hz HSC ⊢
  by_cases he : er = 0
  · subst he
    obtain rfl := hz rfl
    go_enter Tryz.func5, Tryz.ntmps5
    go_wp2_with fail
    refine HSC.out.mono ?_; rintro e w1 ⟨v, rfl, hrow, hb⟩
    have HROW := Lib.hid hrow
    have HB := Lib.hid hb
    clear hrow hb
    go_wp2_with fail
    exact bodyPost_ret (v := .tuple #[v, .int .i64 0, .int .i64 0]) (by simp [results, Tryz.results5, go_sem]) rfl ⟨v, rfl, HROW.out, HB.out⟩
  · have he2 : (er == 0) = false := beq_eq_false_iff_ne.2 he
    have hok : okT (ts, p, er) = [] := if_neg he
    go_enter Tryz.func5, Tryz.ntmps5
    go_wp2_with fail
    refine HSC.out.mono ?_; rintro e w1 ⟨v, rfl, hrow, hb⟩
    have HB := Lib.hid hb
    clear hrow hb
    go_wp2_with fail
    exact bodyPost_ret (v := .tuple #[.slice none 0 0, .int .i64 p, .int .i64 er]) (by simp [results, Tryz.results5, go_sem]) rfl ⟨_, rfl, by rw [hok]; exact TRow.nil _ _, HB.out⟩
end Go.Proofs.YtjanpaallealgaaGreatDoor.lex

namespace Go.Proofs.YtjanpaallealgaaGreatDoor.lex
open Go.RowKit
open heap
set_option linter.unusedVariables false
set_option linter.unusedSimpArgs false
set_option maxRecDepth 100000

theorem Num_any (n : Int) (w : World) : Calls Tryz.prog 7 #[.int .i64 n] w fun e w' => e = .returned (.int .i64 n) ∧ w = w' := by
  go_enter Tryz.func7, Tryz.ntmps7
  go_wp2
  go_ret
  exact ⟨rfl, rfl⟩
theorem tok_one : scanL [115, 101, 116, 32, 120, 32, 61, 32, 34, 97, 92, 110, 34, 32, 35, 32, 99] = ([⟨1, [115, 101, 116], 0, 0⟩, ⟨1, [120], 0, 4⟩, ⟨4, [61], 0, 6⟩, ⟨3, [97, 10], 0, 8⟩, ⟨0, [], 0, 17⟩], 0, 0) := by decide +kernel
theorem tok_two : (scanL [97, 32, 36]).2 = (2, 1800) := by decide +kernel
set_option maxHeartbeats 1000000 in
theorem awake_any (w : World) (htab : Lib.TabIs Tryz.prog w "strings.asciiSpace" .u8 Lib.asciiSpaceTab) : Calls Tryz.prog 9 #[] w fun e w' => e = .returned (.bool true) ∧ Below w.heap.size w w' := by
  have H1 : Hid (Calls Tryz.prog 4 #[.string ⟨#[115, 101, 116, 32, 120, 32, 61, 32, 34, 97, 92, 110, 34, 32, 35, 32, 99]⟩] w fun e w' => ∃ g c, e = .returned (.tuple #[.slice (some ⟨g, 0, none⟩) 5 c, .int .i64 0, .int .i64 0]) ∧ 5 ≤ c ∧ c ≤ maxLen ∧
      w'.cell? ⟨g, 12, none⟩ = some (.int .i64 3) ∧ w'.cell? ⟨g, 13, none⟩ = some (.string ⟨#[97, 10]⟩) ∧ w'.cell? ⟨g, 16, none⟩ = some (.int .i64 0) ∧ w'.cell? ⟨g, 19, none⟩ = some (.int .i64 17) ∧ Below w.heap.size w w') := by
    refine (Tokens_any ⟨#[115, 101, 116, 32, 120, 32, 61, 32, 34, 97, 92, 110, 34, 32, 35, 32, 99]⟩ w (by decide) htab).mono ?_
    rintro e w' ⟨v, rfl, h1, -, hb⟩
    rw [tok_one] at h1 ⊢
    rcases (h1 rfl).cells with ⟨-, h2⟩ | ⟨g, c, rfl, h3, h4, h5, h6, h7⟩
    · cases h2
    · have k3 := h7 3 _ rfl
      have k4 := h7 4 _ rfl
      exact ⟨g, c, rfl, h5, h6, k3.1, k3.2.1, k4.1, k4.2.2.2, hb⟩
  have H2 : Hid (∀ W, Below w.heap.size w W → Calls Tryz.prog 4 #[.string ⟨#[97, 32, 36]⟩] W fun e w' => e = .returned (.tuple #[.slice none 0 0, .int .i64 2, .int .i64 1800]) ∧ Below W.heap.size W w') := by
    intro W hW
    refine (Tokens_any ⟨#[97, 32, 36]⟩ W (by decide) (tab_below htab hW)).mono ?_
    rintro e w' ⟨v, rfl, -, h1, hb⟩
    rw [tok_two] at h1 ⊢
    obtain rfl := h1 (by decide)
    exact ⟨rfl, hb⟩
  clear htab
  go_enter Tryz.func9, Tryz.ntmps9
  go_wp2_with fail
  refine H1.out.mono ?_; rintro e w1 ⟨g, c, rfl, hc1, hc2, k1, k2, k3, k4, hb1⟩
  have HB1 := Lib.hid hb1
  have hg1 : g < w1.heap.size := World.block_lt_of_cell? w1 ⟨g, 12, none⟩ k1
  clear hb1
  go_wp2_with fail
  refine (H2.out _ HB1.out).mono ?_; rintro e w2 ⟨rfl, hb2⟩
  have j1 := (hb2.cell (p := ⟨g, 12, none⟩) hg1).trans k1
  have j2 := (hb2.cell (p := ⟨g, 13, none⟩) hg1).trans k2
  have j3 := (hb2.cell (p := ⟨g, 16, none⟩) hg1).trans k3
  have j4 := (hb2.cell (p := ⟨g, 19, none⟩) hg1).trans k4
  have HB2 := Lib.hid (HB1.out.trans (hb2.mono HB1.out.size))
  clear hb2 k1 k2 k3 k4 HB1 H1 H2
  unfold maxLen at hc2
  go_wp2_with (go_at_call 7; refine (Num_any _ _).mono ?_; rintro e w' ⟨rfl, rfl⟩)
  all_goals
    first | go_ret | go_ret2
    exact ⟨rfl, HB2.out⟩
end Go.Proofs.YtjanpaallealgaaGreatDoor.lex

namespace Go.Proofs.YtjanpaallealgaaGreatDoor.reg
open Go.RowKit

theorem yield_of {l : List Oper} {a : Act} {j t : Nat} {p : Oper} {b : Bool} (hp : l[j]? = some p) (hd : p.dst = some t) (h : a.eval (.tmp t) = .bool b) : yielded l.toArray a.tmps j = some b := by
  have h' : a.tmps.getD t undef = .bool b := h
  unfold yielded
  rw [List.getElem?_toArray, hp]
  simp only [Option.bind_some, hd]
  cases ht : a.tmps[t]? with
  | none => simp [Array.getD_eq_getD_getElem?, ht] at h'; cases h'
  | some v => simp [Array.getD_eq_getD_getElem?, ht] at h'; subst h'; rfl
theorem yield_undef {l : List Oper} {a : Act} {j t : Nat} {p : Oper} (hp : l[j]? = some p) (hd : p.dst = some t) (h : a.eval (.tmp t) = undef) : yielded l.toArray a.tmps j = none := by
  have h' : a.tmps.getD t undef = undef := h
  unfold yielded
  rw [List.getElem?_toArray, hp]
  simp only [Option.bind_some, hd]
  cases ht : a.tmps[t]? with
  | none => rfl
  | some v => simp [Array.getD_eq_getD_getElem?, ht] at h'; subst h'; rfl
theorem want_yes {l : List Oper} {a : Act} {o p : Oper} {j t : Nat} {want b : Bool} {A B : Prop} (hg : o.guard = some (j, want)) (hp : l[j]? = some p) (hd : p.dst = some t) (h : a.eval (.tmp t) = .bool b) (hb : b = want) (hA : A) : if Region.wanted o (yielded l.toArray a.tmps) = true then A else B := by
  rw [if_pos]
  · exact hA
  · simp [Region.wanted, hg, yield_of hp hd h, hb]
theorem want_no {l : List Oper} {a : Act} {o p : Oper} {j t : Nat} {want b : Bool} {A B : Prop} (hg : o.guard = some (j, want)) (hp : l[j]? = some p) (hd : p.dst = some t) (h : a.eval (.tmp t) = .bool b) (hb : b ≠ want) (hB : B) : if Region.wanted o (yielded l.toArray a.tmps) = true then A else B := by
  rw [if_neg]
  · exact hB
  · simp [Region.wanted, hg, yield_of hp hd h, hb]
theorem want_no_undef {l : List Oper} {a : Act} {o p : Oper} {j t : Nat} {want : Bool} {A B : Prop} (hg : o.guard = some (j, want)) (hp : l[j]? = some p) (hd : p.dst = some t) (h : a.eval (.tmp t) = undef) (hB : B) : if Region.wanted o (yielded l.toArray a.tmps) = true then A else B := by
  rw [if_neg]
  · exact hB
  · simp [Region.wanted, hg, yield_undef hp hd h]
end Go.Proofs.YtjanpaallealgaaGreatDoor.reg

namespace Go.Proofs.YtjanpaallealgaaGreatDoor.lex
open Go.RowKit
open heap
open num (list_len drop_cons)
open flt (fv same_one)
set_option linter.unusedVariables false
set_option linter.unusedSimpArgs false
set_option maxRecDepth 100000

set_option maxHeartbeats 4000000 in
theorem Same_any (b1 b2 : Nat) (v1 v2 : Value) (ts : List Tk) (w : World) (h1 : TRow w b1 v1 ts) (h2 : TRow w b2 v2 ts) (hn : ts.length ≤ 100000) :
    Calls Tryz.prog 6 #[v1, v2] w fun e w' => e = .returned (.bool true) ∧ Below w.heap.size w w' := by
  obtain ⟨a1, c1, rfl⟩ := h1.slice
  obtain ⟨a2, c2, rfl⟩ := h2.slice
  have H1 := Lib.hid h1
  have H2 := Lib.hid h2
  clear h1 h2
  go_enter Tryz.func6, Tryz.ntmps6
  go_wp2_with fail
  go_loopw [5] (fun i wr => ∃ k : Nat, k ≤ ts.length ∧ i = .int .i64 k ∧ Hid (Below w.heap.size w wr)) (fun i _ => ts.length - (intOf i).toNat)
  case atStart => exact ⟨0, Nat.zero_le _, rfl, Below.refl _ _⟩
  case round =>
    obtain ⟨k, hk, rfl, HB⟩ := hrel
    by_cases hlt : k < ts.length
    · obtain ⟨t, ht⟩ : ∃ t, ts[k]? = some t := ⟨_, List.getElem?_eq_getElem hlt⟩
      have hkI : (k : Int) < (ts.length : Int) := by omega
      rcases (H1.out.below HB.out).cells with ⟨-, h0⟩ | ⟨g1, d1, hv1, hg1, -, hc1, hc1', hcell1⟩
      · rw [h0] at hlt; simp at hlt
      · rcases (H2.out.below HB.out).cells with ⟨-, h0⟩ | ⟨g2, d2, hv2, hg2, -, hc2, hc2', hcell2⟩
        · rw [h0] at hlt; simp at hlt
        · simp only [Value.slice.injEq] at hv1 hv2
          obtain ⟨rfl, -, rfl⟩ := hv1
          obtain ⟨rfl, -, rfl⟩ := hv2
          obtain ⟨x0, x1, x2, x3⟩ := hcell1 k t ht
          obtain ⟨y0, y1, y2, y3⟩ := hcell2 k t ht
          unfold maxLen at hc1' hc2'
          clear hcell1 hcell2 ht
          obtain ⟨kd, u, nm, at_⟩ := t
          simp only at x0 x1 x2 x3 y0 y1 y2 y3
          go_wp2_with fail
          refine reg.region_each (by kernel_rfl) reg.Ext (fun ri v w' => match ri with
              | 0 => v = .slice (some ⟨g1, 0, none⟩) ts.length c1
              | 1 => v = .int .i64 k
              | 2 => v = .pointer (some ⟨g1, k * 4, none⟩)
              | 3 => v = .pointer (some ⟨g1, k * 4, none⟩)
              | 4 => v = .int .i64 kd
              | 5 => v = .slice (some ⟨g2, 0, none⟩) ts.length c2
              | 6 => v = .int .i64 k
              | 7 => v = .pointer (some ⟨g2, k * 4, none⟩)
              | 8 => v = .pointer (some ⟨g2, k * 4, none⟩)
              | 9 => v = .int .i64 kd
              | 10 => v = .bool false
              | 11 => v = .bool false
              | 12 => v = .slice (some ⟨g1, 0, none⟩) ts.length c1
              | 13 => v = .int .i64 k
              | 14 => v = .pointer (some ⟨g1, k * 4, none⟩)
              | 15 => v = .pointer (some ⟨g1, k * 4 + 1, none⟩)
              | 16 => v = .string ⟨u.toArray⟩
              | 17 => v = .slice (some ⟨g2, 0, none⟩) ts.length c2
              | 18 => v = .int .i64 k
              | 19 => v = .pointer (some ⟨g2, k * 4, none⟩)
              | 20 => v = .pointer (some ⟨g2, k * 4 + 1, none⟩)
              | 21 => v = .string ⟨u.toArray⟩
              | 22 => v = .bool false
              | 23 => v = .bool false
              | 24 => v = .bool false
              | 25 => v = .slice (some ⟨g1, 0, none⟩) ts.length c1
              | 26 => v = .int .i64 k
              | 27 => v = .pointer (some ⟨g1, k * 4, none⟩)
              | 28 => v = .pointer (some ⟨g1, k * 4 + 3, none⟩)
              | 29 => v = .int .i64 at_
              | 30 => v = .slice (some ⟨g2, 0, none⟩) ts.length c2
              | 31 => v = .int .i64 k
              | 32 => v = .pointer (some ⟨g2, k * 4, none⟩)
              | 33 => v = .pointer (some ⟨g2, k * 4 + 3, none⟩)
              | 34 => v = .int .i64 at_
              | 35 => v = .bool false
              | 36 => v = .bool false
              | 37 => v = .bool false
              | 38 => v = .slice (some ⟨g1, 0, none⟩) ts.length c1
              | 39 => v = .int .i64 k
              | 40 => v = .pointer (some ⟨g1, k * 4, none⟩)
              | 41 => v = .pointer (some ⟨g1, k * 4 + 2, none⟩)
              | 42 => v = .float .f64 nm
              | 43 => v = .slice (some ⟨g2, 0, none⟩) ts.length c2
              | 44 => v = .int .i64 k
              | 45 => v = .pointer (some ⟨g2, k * 4, none⟩)
              | 46 => v = .pointer (some ⟨g2, k * 4 + 2, none⟩)
              | 47 => v = .float .f64 nm
              | 48 => v = .bool true
              | 49 => v = .bool false
              | 50 => v = .bool false
              | _ => True) reg.Ext.refl reg.Ext.trans ?_ (by kernel_rfl) ?_ ?_
          ·
            intro i v w1 w2 h hx
            rcases i with _|_|_|_|_|_|_|_|_|_|_|_|_|_|_|_|_|_|_|_|_|_|_|_|_|_|_|_|_|_|_|_|_|_|_|_|_|_|_|_|_|_|_|_|_|_|_|_|_|_|_|i
            · exact h
            · exact h
            · exact h
            · exact h
            · exact h
            · exact h
            · exact h
            · exact h
            · exact h
            · exact h
            · exact h
            · exact h
            · exact h
            · exact h
            · exact h
            · exact h
            · exact h
            · exact h
            · exact h
            · exact h
            · exact h
            · exact h
            · exact h
            · exact h
            · exact h
            · exact h
            · exact h
            · exact h
            · exact h
            · exact h
            · exact h
            · exact h
            · exact h
            · exact h
            · exact h
            · exact h
            · exact h
            · exact h
            · exact h
            · exact h
            · exact h
            · exact h
            · exact h
            · exact h
            · exact h
            · exact h
            · exact h
            · exact h
            · exact h
            · exact h
            · exact h
            · trivial
          ·
            refine ⟨?_, ?_, ?_, ?_, ?_, ?_, ?_, ?_, ?_, ?_, ?_, ?_, ?_, ?_, ?_, ?_, ?_, ?_, ?_, ?_, ?_, ?_, ?_, ?_, ?_, ?_, ?_, ?_, ?_, ?_, ?_, ?_, ?_, ?_, ?_, ?_, ?_, ?_, ?_, ?_, ?_, ?_, ?_, ?_, ?_, ?_, ?_, ?_, ?_, ?_, ?_, trivial⟩
            · -- 0: slot 17 := Op.move t0
              intro ra w' hx hs
              have s0 : ra.eval (.tmp 0) = .slice (some ⟨g1, 0, none⟩) ts.length c1 := hs.1
              clear hs
              have x0 := hx.cell x0
              have x1 := hx.cell x1
              have x2 := hx.cell x2
              have x3 := hx.cell x3
              have y0 := hx.cell y0
              have y1 := hx.cell y1
              have y2 := hx.cell y2
              have y3 := hx.cell y3
              change Oper.wp _ _ ra w' _ _
              refine reg.wp_value (v := .slice (some ⟨g1, 0, none⟩) ts.length c1) (w' := w') ?_ ⟨_, rfl, reg.Ext.refl _, rfl⟩
              intro ρ rc rf rg re
              rw [re] at s0
              simp [execOp, go_sem, rc, rf, rg, s0] <;> first | omega | rfl | decide
            · -- 1: slot 18 := Op.move t5
              intro ra w' hx hs
              have s5 : ra.eval (.tmp 5) = .int .i64 k := hs.1
              clear hs
              have x0 := hx.cell x0
              have x1 := hx.cell x1
              have x2 := hx.cell x2
              have x3 := hx.cell x3
              have y0 := hx.cell y0
              have y1 := hx.cell y1
              have y2 := hx.cell y2
              have y3 := hx.cell y3
              change Oper.wp _ _ ra w' _ _
              refine reg.wp_value (v := .int .i64 k) (w' := w') ?_ ⟨_, rfl, reg.Ext.refl _, rfl⟩
              intro ρ rc rf rg re
              rw [re] at s5
              simp [execOp, go_sem, rc, rf, rg, s5] <;> first | omega | rfl | decide
            · -- 2: slot 19 := Op.indexAddr 22 t17 t18
              intro ra w' hx hs
              have s17 : ra.eval (.tmp 17) = .slice (some ⟨g1, 0, none⟩) ts.length c1 := hs.1
              have s18 : ra.eval (.tmp 18) = .int .i64 k := hs.2.1
              clear hs
              have x0 := hx.cell x0
              have x1 := hx.cell x1
              have x2 := hx.cell x2
              have x3 := hx.cell x3
              have y0 := hx.cell y0
              have y1 := hx.cell y1
              have y2 := hx.cell y2
              have y3 := hx.cell y3
              change Oper.wp _ _ ra w' _ _
              refine reg.wp_value (v := .pointer (some ⟨g1, k * 4, none⟩)) (w' := w') ?_ ⟨_, rfl, reg.Ext.refl _, rfl⟩
              intro ρ rc rf rg re
              rw [re] at s17 s18
              simp [execOp, go_sem, rc, rf, rg, s17, s18, hkI] <;> first | omega | rfl | decide
            · -- 3: slot 20 := Op.fieldAddr 38 t19 0
              intro ra w' hx hs
              have s19 : ra.eval (.tmp 19) = .pointer (some ⟨g1, k * 4, none⟩) := hs.1
              clear hs
              have x0 := hx.cell x0
              have x1 := hx.cell x1
              have x2 := hx.cell x2
              have x3 := hx.cell x3
              have y0 := hx.cell y0
              have y1 := hx.cell y1
              have y2 := hx.cell y2
              have y3 := hx.cell y3
              change Oper.wp _ _ ra w' _ _
              refine reg.wp_value (v := .pointer (some ⟨g1, k * 4, none⟩)) (w' := w') ?_ ⟨_, rfl, reg.Ext.refl _, rfl⟩
              intro ρ rc rf rg re
              rw [re] at s19
              simp [execOp, go_sem, rc, rf, rg, s19] <;> first | omega | rfl | decide
            · -- 4: slot 21 := Op.load 3 t20
              intro ra w' hx hs
              have s20 : ra.eval (.tmp 20) = .pointer (some ⟨g1, k * 4, none⟩) := hs.1
              clear hs
              have x0 := hx.cell x0
              have x1 := hx.cell x1
              have x2 := hx.cell x2
              have x3 := hx.cell x3
              have y0 := hx.cell y0
              have y1 := hx.cell y1
              have y2 := hx.cell y2
              have y3 := hx.cell y3
              change Oper.wp _ _ ra w' _ _
              refine reg.wp_value (v := .int .i64 kd) (w' := w') ?_ ⟨_, rfl, reg.Ext.refl _, rfl⟩
              intro ρ rc rf rg re
              rw [re] at s20
              simp [execOp, go_sem, rc, rf, rg, s20, x0] <;> first | omega | rfl | decide
            · -- 5: slot 22 := Op.move t1
              intro ra w' hx hs
              have s1 : ra.eval (.tmp 1) = .slice (some ⟨g2, 0, none⟩) ts.length c2 := hs.1
              clear hs
              have x0 := hx.cell x0
              have x1 := hx.cell x1
              have x2 := hx.cell x2
              have x3 := hx.cell x3
              have y0 := hx.cell y0
              have y1 := hx.cell y1
              have y2 := hx.cell y2
              have y3 := hx.cell y3
              change Oper.wp _ _ ra w' _ _
              refine reg.wp_value (v := .slice (some ⟨g2, 0, none⟩) ts.length c2) (w' := w') ?_ ⟨_, rfl, reg.Ext.refl _, rfl⟩
              intro ρ rc rf rg re
              rw [re] at s1
              simp [execOp, go_sem, rc, rf, rg, s1] <;> first | omega | rfl | decide
            · -- 6: slot 23 := Op.move t5
              intro ra w' hx hs
              have s5 : ra.eval (.tmp 5) = .int .i64 k := hs.1
              clear hs
              have x0 := hx.cell x0
              have x1 := hx.cell x1
              have x2 := hx.cell x2
              have x3 := hx.cell x3
              have y0 := hx.cell y0
              have y1 := hx.cell y1
              have y2 := hx.cell y2
              have y3 := hx.cell y3
              change Oper.wp _ _ ra w' _ _
              refine reg.wp_value (v := .int .i64 k) (w' := w') ?_ ⟨_, rfl, reg.Ext.refl _, rfl⟩
              intro ρ rc rf rg re
              rw [re] at s5
              simp [execOp, go_sem, rc, rf, rg, s5] <;> first | omega | rfl | decide
            · -- 7: slot 24 := Op.indexAddr 22 t22 t23
              intro ra w' hx hs
              have s22 : ra.eval (.tmp 22) = .slice (some ⟨g2, 0, none⟩) ts.length c2 := hs.1
              have s23 : ra.eval (.tmp 23) = .int .i64 k := hs.2.1
              clear hs
              have x0 := hx.cell x0
              have x1 := hx.cell x1
              have x2 := hx.cell x2
              have x3 := hx.cell x3
              have y0 := hx.cell y0
              have y1 := hx.cell y1
              have y2 := hx.cell y2
              have y3 := hx.cell y3
              change Oper.wp _ _ ra w' _ _
              refine reg.wp_value (v := .pointer (some ⟨g2, k * 4, none⟩)) (w' := w') ?_ ⟨_, rfl, reg.Ext.refl _, rfl⟩
              intro ρ rc rf rg re
              rw [re] at s22 s23
              simp [execOp, go_sem, rc, rf, rg, s22, s23, hkI] <;> first | omega | rfl | decide
            · -- 8: slot 25 := Op.fieldAddr 38 t24 0
              intro ra w' hx hs
              have s24 : ra.eval (.tmp 24) = .pointer (some ⟨g2, k * 4, none⟩) := hs.1
              clear hs
              have x0 := hx.cell x0
              have x1 := hx.cell x1
              have x2 := hx.cell x2
              have x3 := hx.cell x3
              have y0 := hx.cell y0
              have y1 := hx.cell y1
              have y2 := hx.cell y2
              have y3 := hx.cell y3
              change Oper.wp _ _ ra w' _ _
              refine reg.wp_value (v := .pointer (some ⟨g2, k * 4, none⟩)) (w' := w') ?_ ⟨_, rfl, reg.Ext.refl _, rfl⟩
              intro ρ rc rf rg re
              rw [re] at s24
              simp [execOp, go_sem, rc, rf, rg, s24] <;> first | omega | rfl | decide
            · -- 9: slot 26 := Op.load 3 t25
              intro ra w' hx hs
              have s25 : ra.eval (.tmp 25) = .pointer (some ⟨g2, k * 4, none⟩) := hs.1
              clear hs
              have x0 := hx.cell x0
              have x1 := hx.cell x1
              have x2 := hx.cell x2
              have x3 := hx.cell x3
              have y0 := hx.cell y0
              have y1 := hx.cell y1
              have y2 := hx.cell y2
              have y3 := hx.cell y3
              change Oper.wp _ _ ra w' _ _
              refine reg.wp_value (v := .int .i64 kd) (w' := w') ?_ ⟨_, rfl, reg.Ext.refl _, rfl⟩
              intro ρ rc rf rg re
              rw [re] at s25
              simp [execOp, go_sem, rc, rf, rg, s25, y0] <;> first | omega | rfl | decide
            · -- 10: slot 27 := Op.binOp BinOp.neq 3 t21 t26 3
              intro ra w' hx hs
              have s21 : ra.eval (.tmp 21) = .int .i64 kd := hs.1
              have s26 : ra.eval (.tmp 26) = .int .i64 kd := hs.2.1
              clear hs
              have x0 := hx.cell x0
              have x1 := hx.cell x1
              have x2 := hx.cell x2
              have x3 := hx.cell x3
              have y0 := hx.cell y0
              have y1 := hx.cell y1
              have y2 := hx.cell y2
              have y3 := hx.cell y3
              change Oper.wp _ _ ra w' _ _
              refine reg.wp_value (v := .bool false) (w' := w') ?_ ⟨_, rfl, reg.Ext.refl _, rfl⟩
              intro ρ rc rf rg re
              rw [re] at s21 s26
              simp [execOp, go_sem, rc, rf, rg, s21, s26] <;> first | omega | rfl | decide
            · -- 11: slot 28 := Op.move t27
              intro ra w' hx hs
              have s27 : ra.eval (.tmp 27) = .bool false := hs.1
              clear hs
              have x0 := hx.cell x0
              have x1 := hx.cell x1
              have x2 := hx.cell x2
              have x3 := hx.cell x3
              have y0 := hx.cell y0
              have y1 := hx.cell y1
              have y2 := hx.cell y2
              have y3 := hx.cell y3
              change Oper.wp _ _ ra w' _ _
              refine reg.wp_value (v := .bool false) (w' := w') ?_ ⟨_, rfl, reg.Ext.refl _, rfl⟩
              intro ρ rc rf rg re
              rw [re] at s27
              simp [execOp, go_sem, rc, rf, rg, s27] <;> first | omega | rfl | decide
            · -- 12: slot 29 := Op.move t0
              intro ra w' hx hs
              have s0 : ra.eval (.tmp 0) = .slice (some ⟨g1, 0, none⟩) ts.length c1 := hs.1
              have s28 : ra.eval (.tmp 28) = .bool false := hs.2.1
              clear hs
              have x0 := hx.cell x0
              have x1 := hx.cell x1
              have x2 := hx.cell x2
              have x3 := hx.cell x3
              have y0 := hx.cell y0
              have y1 := hx.cell y1
              have y2 := hx.cell y2
              have y3 := hx.cell y3
              refine reg.want_yes rfl rfl rfl s28 rfl ?_
              change Oper.wp _ _ ra w' _ _
              refine reg.wp_value (v := .slice (some ⟨g1, 0, none⟩) ts.length c1) (w' := w') ?_ ⟨_, rfl, reg.Ext.refl _, rfl⟩
              intro ρ rc rf rg re
              rw [re] at s0 s28
              simp [execOp, go_sem, rc, rf, rg, s0, s28] <;> first | omega | rfl | decide
            · -- 13: slot 30 := Op.move t5
              intro ra w' hx hs
              have s5 : ra.eval (.tmp 5) = .int .i64 k := hs.1
              have s28 : ra.eval (.tmp 28) = .bool false := hs.2.1
              clear hs
              have x0 := hx.cell x0
              have x1 := hx.cell x1
              have x2 := hx.cell x2
              have x3 := hx.cell x3
              have y0 := hx.cell y0
              have y1 := hx.cell y1
              have y2 := hx.cell y2
              have y3 := hx.cell y3
              refine reg.want_yes rfl rfl rfl s28 rfl ?_
              change Oper.wp _ _ ra w' _ _
              refine reg.wp_value (v := .int .i64 k) (w' := w') ?_ ⟨_, rfl, reg.Ext.refl _, rfl⟩
              intro ρ rc rf rg re
              rw [re] at s5 s28
              simp [execOp, go_sem, rc, rf, rg, s5, s28] <;> first | omega | rfl | decide
            · -- 14: slot 31 := Op.indexAddr 22 t29 t30
              intro ra w' hx hs
              have s29 : ra.eval (.tmp 29) = .slice (some ⟨g1, 0, none⟩) ts.length c1 := hs.1
              have s30 : ra.eval (.tmp 30) = .int .i64 k := hs.2.1
              have s28 : ra.eval (.tmp 28) = .bool false := hs.2.2.1
              clear hs
              have x0 := hx.cell x0
              have x1 := hx.cell x1
              have x2 := hx.cell x2
              have x3 := hx.cell x3
              have y0 := hx.cell y0
              have y1 := hx.cell y1
              have y2 := hx.cell y2
              have y3 := hx.cell y3
              refine reg.want_yes rfl rfl rfl s28 rfl ?_
              change Oper.wp _ _ ra w' _ _
              refine reg.wp_value (v := .pointer (some ⟨g1, k * 4, none⟩)) (w' := w') ?_ ⟨_, rfl, reg.Ext.refl _, rfl⟩
              intro ρ rc rf rg re
              rw [re] at s29 s30 s28
              simp [execOp, go_sem, rc, rf, rg, s29, s30, s28, hkI] <;> first | omega | rfl | decide
            · -- 15: slot 32 := Op.fieldAddr 38 t31 1
              intro ra w' hx hs
              have s31 : ra.eval (.tmp 31) = .pointer (some ⟨g1, k * 4, none⟩) := hs.1
              have s28 : ra.eval (.tmp 28) = .bool false := hs.2.1
              clear hs
              have x0 := hx.cell x0
              have x1 := hx.cell x1
              have x2 := hx.cell x2
              have x3 := hx.cell x3
              have y0 := hx.cell y0
              have y1 := hx.cell y1
              have y2 := hx.cell y2
              have y3 := hx.cell y3
              refine reg.want_yes rfl rfl rfl s28 rfl ?_
              change Oper.wp _ _ ra w' _ _
              refine reg.wp_value (v := .pointer (some ⟨g1, k * 4 + 1, none⟩)) (w' := w') ?_ ⟨_, rfl, reg.Ext.refl _, rfl⟩
              intro ρ rc rf rg re
              rw [re] at s31 s28
              simp [execOp, go_sem, rc, rf, rg, s31, s28] <;> first | omega | rfl | decide
            · -- 16: slot 33 := Op.load 9 t32
              intro ra w' hx hs
              have s32 : ra.eval (.tmp 32) = .pointer (some ⟨g1, k * 4 + 1, none⟩) := hs.1
              have s28 : ra.eval (.tmp 28) = .bool false := hs.2.1
              clear hs
              have x0 := hx.cell x0
              have x1 := hx.cell x1
              have x2 := hx.cell x2
              have x3 := hx.cell x3
              have y0 := hx.cell y0
              have y1 := hx.cell y1
              have y2 := hx.cell y2
              have y3 := hx.cell y3
              refine reg.want_yes rfl rfl rfl s28 rfl ?_
              change Oper.wp _ _ ra w' _ _
              refine reg.wp_value (v := .string ⟨u.toArray⟩) (w' := w') ?_ ⟨_, rfl, reg.Ext.refl _, rfl⟩
              intro ρ rc rf rg re
              rw [re] at s32 s28
              simp [execOp, go_sem, rc, rf, rg, s32, s28, x1] <;> first | omega | rfl | decide
            · -- 17: slot 34 := Op.move t1
              intro ra w' hx hs
              have s1 : ra.eval (.tmp 1) = .slice (some ⟨g2, 0, none⟩) ts.length c2 := hs.1
              have s28 : ra.eval (.tmp 28) = .bool false := hs.2.1
              clear hs
              have x0 := hx.cell x0
              have x1 := hx.cell x1
              have x2 := hx.cell x2
              have x3 := hx.cell x3
              have y0 := hx.cell y0
              have y1 := hx.cell y1
              have y2 := hx.cell y2
              have y3 := hx.cell y3
              refine reg.want_yes rfl rfl rfl s28 rfl ?_
              change Oper.wp _ _ ra w' _ _
              refine reg.wp_value (v := .slice (some ⟨g2, 0, none⟩) ts.length c2) (w' := w') ?_ ⟨_, rfl, reg.Ext.refl _, rfl⟩
              intro ρ rc rf rg re
              rw [re] at s1 s28
              simp [execOp, go_sem, rc, rf, rg, s1, s28] <;> first | omega | rfl | decide
            · -- 18: slot 35 := Op.move t5
              intro ra w' hx hs
              have s5 : ra.eval (.tmp 5) = .int .i64 k := hs.1
              have s28 : ra.eval (.tmp 28) = .bool false := hs.2.1
              clear hs
              have x0 := hx.cell x0
              have x1 := hx.cell x1
              have x2 := hx.cell x2
              have x3 := hx.cell x3
              have y0 := hx.cell y0
              have y1 := hx.cell y1
              have y2 := hx.cell y2
              have y3 := hx.cell y3
              refine reg.want_yes rfl rfl rfl s28 rfl ?_
              change Oper.wp _ _ ra w' _ _
              refine reg.wp_value (v := .int .i64 k) (w' := w') ?_ ⟨_, rfl, reg.Ext.refl _, rfl⟩
              intro ρ rc rf rg re
              rw [re] at s5 s28
              simp [execOp, go_sem, rc, rf, rg, s5, s28] <;> first | omega | rfl | decide
            · -- 19: slot 36 := Op.indexAddr 22 t34 t35
              intro ra w' hx hs
              have s34 : ra.eval (.tmp 34) = .slice (some ⟨g2, 0, none⟩) ts.length c2 := hs.1
              have s35 : ra.eval (.tmp 35) = .int .i64 k := hs.2.1
              have s28 : ra.eval (.tmp 28) = .bool false := hs.2.2.1
              clear hs
              have x0 := hx.cell x0
              have x1 := hx.cell x1
              have x2 := hx.cell x2
              have x3 := hx.cell x3
              have y0 := hx.cell y0
              have y1 := hx.cell y1
              have y2 := hx.cell y2
              have y3 := hx.cell y3
              refine reg.want_yes rfl rfl rfl s28 rfl ?_
              change Oper.wp _ _ ra w' _ _
              refine reg.wp_value (v := .pointer (some ⟨g2, k * 4, none⟩)) (w' := w') ?_ ⟨_, rfl, reg.Ext.refl _, rfl⟩
              intro ρ rc rf rg re
              rw [re] at s34 s35 s28
              simp [execOp, go_sem, rc, rf, rg, s34, s35, s28, hkI] <;> first | omega | rfl | decide
            · -- 20: slot 37 := Op.fieldAddr 38 t36 1
              intro ra w' hx hs
              have s36 : ra.eval (.tmp 36) = .pointer (some ⟨g2, k * 4, none⟩) := hs.1
              have s28 : ra.eval (.tmp 28) = .bool false := hs.2.1
              clear hs
              have x0 := hx.cell x0
              have x1 := hx.cell x1
              have x2 := hx.cell x2
              have x3 := hx.cell x3
              have y0 := hx.cell y0
              have y1 := hx.cell y1
              have y2 := hx.cell y2
              have y3 := hx.cell y3
              refine reg.want_yes rfl rfl rfl s28 rfl ?_
              change Oper.wp _ _ ra w' _ _
              refine reg.wp_value (v := .pointer (some ⟨g2, k * 4 + 1, none⟩)) (w' := w') ?_ ⟨_, rfl, reg.Ext.refl _, rfl⟩
              intro ρ rc rf rg re
              rw [re] at s36 s28
              simp [execOp, go_sem, rc, rf, rg, s36, s28] <;> first | omega | rfl | decide
            · -- 21: slot 38 := Op.load 9 t37
              intro ra w' hx hs
              have s37 : ra.eval (.tmp 37) = .pointer (some ⟨g2, k * 4 + 1, none⟩) := hs.1
              have s28 : ra.eval (.tmp 28) = .bool false := hs.2.1
              clear hs
              have x0 := hx.cell x0
              have x1 := hx.cell x1
              have x2 := hx.cell x2
              have x3 := hx.cell x3
              have y0 := hx.cell y0
              have y1 := hx.cell y1
              have y2 := hx.cell y2
              have y3 := hx.cell y3
              refine reg.want_yes rfl rfl rfl s28 rfl ?_
              change Oper.wp _ _ ra w' _ _
              refine reg.wp_value (v := .string ⟨u.toArray⟩) (w' := w') ?_ ⟨_, rfl, reg.Ext.refl _, rfl⟩
              intro ρ rc rf rg re
              rw [re] at s37 s28
              simp [execOp, go_sem, rc, rf, rg, s37, s28, y1] <;> first | omega | rfl | decide
            · -- 22: slot 39 := Op.binOp BinOp.neq 9 t33 t38 9
              intro ra w' hx hs
              have s33 : ra.eval (.tmp 33) = .string ⟨u.toArray⟩ := hs.1
              have s38 : ra.eval (.tmp 38) = .string ⟨u.toArray⟩ := hs.2.1
              have s28 : ra.eval (.tmp 28) = .bool false := hs.2.2.1
              clear hs
              have x0 := hx.cell x0
              have x1 := hx.cell x1
              have x2 := hx.cell x2
              have x3 := hx.cell x3
              have y0 := hx.cell y0
              have y1 := hx.cell y1
              have y2 := hx.cell y2
              have y3 := hx.cell y3
              refine reg.want_yes rfl rfl rfl s28 rfl ?_
              change Oper.wp _ _ ra w' _ _
              refine reg.wp_value (v := .bool false) (w' := w') ?_ ⟨_, rfl, reg.Ext.refl _, rfl⟩
              intro ρ rc rf rg re
              rw [re] at s33 s38 s28
              simp [execOp, go_sem, rc, rf, rg, s33, s38, s28] <;> first | omega | rfl | decide
            · -- 23: slot 40 := Op.pick t28 (const (Value.bool true)) t39
              intro ra w' hx hs
              have s28 : ra.eval (.tmp 28) = .bool false := hs.1
              have s39 : ra.eval (.tmp 39) = .bool false := hs.2.1
              clear hs
              have x0 := hx.cell x0
              have x1 := hx.cell x1
              have x2 := hx.cell x2
              have x3 := hx.cell x3
              have y0 := hx.cell y0
              have y1 := hx.cell y1
              have y2 := hx.cell y2
              have y3 := hx.cell y3
              change Oper.wp _ _ ra w' _ _
              refine reg.wp_value (v := .bool false) (w' := w') ?_ ⟨_, rfl, reg.Ext.refl _, rfl⟩
              intro ρ rc rf rg re
              rw [re] at s28 s39
              simp [execOp, go_sem, rc, rf, rg, s28, s39] <;> first | omega | rfl | decide
            · -- 24: slot 41 := Op.move t40
              intro ra w' hx hs
              have s40 : ra.eval (.tmp 40) = .bool false := hs.1
              clear hs
              have x0 := hx.cell x0
              have x1 := hx.cell x1
              have x2 := hx.cell x2
              have x3 := hx.cell x3
              have y0 := hx.cell y0
              have y1 := hx.cell y1
              have y2 := hx.cell y2
              have y3 := hx.cell y3
              change Oper.wp _ _ ra w' _ _
              refine reg.wp_value (v := .bool false) (w' := w') ?_ ⟨_, rfl, reg.Ext.refl _, rfl⟩
              intro ρ rc rf rg re
              rw [re] at s40
              simp [execOp, go_sem, rc, rf, rg, s40] <;> first | omega | rfl | decide
            · -- 25: slot 42 := Op.move t0
              intro ra w' hx hs
              have s0 : ra.eval (.tmp 0) = .slice (some ⟨g1, 0, none⟩) ts.length c1 := hs.1
              have s41 : ra.eval (.tmp 41) = .bool false := hs.2.1
              clear hs
              have x0 := hx.cell x0
              have x1 := hx.cell x1
              have x2 := hx.cell x2
              have x3 := hx.cell x3
              have y0 := hx.cell y0
              have y1 := hx.cell y1
              have y2 := hx.cell y2
              have y3 := hx.cell y3
              refine reg.want_yes rfl rfl rfl s41 rfl ?_
              change Oper.wp _ _ ra w' _ _
              refine reg.wp_value (v := .slice (some ⟨g1, 0, none⟩) ts.length c1) (w' := w') ?_ ⟨_, rfl, reg.Ext.refl _, rfl⟩
              intro ρ rc rf rg re
              rw [re] at s0 s41
              simp [execOp, go_sem, rc, rf, rg, s0, s41] <;> first | omega | rfl | decide
            · -- 26: slot 43 := Op.move t5
              intro ra w' hx hs
              have s5 : ra.eval (.tmp 5) = .int .i64 k := hs.1
              have s41 : ra.eval (.tmp 41) = .bool false := hs.2.1
              clear hs
              have x0 := hx.cell x0
              have x1 := hx.cell x1
              have x2 := hx.cell x2
              have x3 := hx.cell x3
              have y0 := hx.cell y0
              have y1 := hx.cell y1
              have y2 := hx.cell y2
              have y3 := hx.cell y3
              refine reg.want_yes rfl rfl rfl s41 rfl ?_
              change Oper.wp _ _ ra w' _ _
              refine reg.wp_value (v := .int .i64 k) (w' := w') ?_ ⟨_, rfl, reg.Ext.refl _, rfl⟩
              intro ρ rc rf rg re
              rw [re] at s5 s41
              simp [execOp, go_sem, rc, rf, rg, s5, s41] <;> first | omega | rfl | decide
            · -- 27: slot 44 := Op.indexAddr 22 t42 t43
              intro ra w' hx hs
              have s42 : ra.eval (.tmp 42) = .slice (some ⟨g1, 0, none⟩) ts.length c1 := hs.1
              have s43 : ra.eval (.tmp 43) = .int .i64 k := hs.2.1
              have s41 : ra.eval (.tmp 41) = .bool false := hs.2.2.1
              clear hs
              have x0 := hx.cell x0
              have x1 := hx.cell x1
              have x2 := hx.cell x2
              have x3 := hx.cell x3
              have y0 := hx.cell y0
              have y1 := hx.cell y1
              have y2 := hx.cell y2
              have y3 := hx.cell y3
              refine reg.want_yes rfl rfl rfl s41 rfl ?_
              change Oper.wp _ _ ra w' _ _
              refine reg.wp_value (v := .pointer (some ⟨g1, k * 4, none⟩)) (w' := w') ?_ ⟨_, rfl, reg.Ext.refl _, rfl⟩
              intro ρ rc rf rg re
              rw [re] at s42 s43 s41
              simp [execOp, go_sem, rc, rf, rg, s42, s43, s41, hkI] <;> first | omega | rfl | decide
            · -- 28: slot 45 := Op.fieldAddr 38 t44 3
              intro ra w' hx hs
              have s44 : ra.eval (.tmp 44) = .pointer (some ⟨g1, k * 4, none⟩) := hs.1
              have s41 : ra.eval (.tmp 41) = .bool false := hs.2.1
              clear hs
              have x0 := hx.cell x0
              have x1 := hx.cell x1
              have x2 := hx.cell x2
              have x3 := hx.cell x3
              have y0 := hx.cell y0
              have y1 := hx.cell y1
              have y2 := hx.cell y2
              have y3 := hx.cell y3
              refine reg.want_yes rfl rfl rfl s41 rfl ?_
              change Oper.wp _ _ ra w' _ _
              refine reg.wp_value (v := .pointer (some ⟨g1, k * 4 + 3, none⟩)) (w' := w') ?_ ⟨_, rfl, reg.Ext.refl _, rfl⟩
              intro ρ rc rf rg re
              rw [re] at s44 s41
              simp [execOp, go_sem, rc, rf, rg, s44, s41] <;> first | omega | rfl | decide
            · -- 29: slot 46 := Op.load 3 t45
              intro ra w' hx hs
              have s45 : ra.eval (.tmp 45) = .pointer (some ⟨g1, k * 4 + 3, none⟩) := hs.1
              have s41 : ra.eval (.tmp 41) = .bool false := hs.2.1
              clear hs
              have x0 := hx.cell x0
              have x1 := hx.cell x1
              have x2 := hx.cell x2
              have x3 := hx.cell x3
              have y0 := hx.cell y0
              have y1 := hx.cell y1
              have y2 := hx.cell y2
              have y3 := hx.cell y3
              refine reg.want_yes rfl rfl rfl s41 rfl ?_
              change Oper.wp _ _ ra w' _ _
              refine reg.wp_value (v := .int .i64 at_) (w' := w') ?_ ⟨_, rfl, reg.Ext.refl _, rfl⟩
              intro ρ rc rf rg re
              rw [re] at s45 s41
              simp [execOp, go_sem, rc, rf, rg, s45, s41, x3] <;> first | omega | rfl | decide
            · -- 30: slot 47 := Op.move t1
              intro ra w' hx hs
              have s1 : ra.eval (.tmp 1) = .slice (some ⟨g2, 0, none⟩) ts.length c2 := hs.1
              have s41 : ra.eval (.tmp 41) = .bool false := hs.2.1
              clear hs
              have x0 := hx.cell x0
              have x1 := hx.cell x1
              have x2 := hx.cell x2
              have x3 := hx.cell x3
              have y0 := hx.cell y0
              have y1 := hx.cell y1
              have y2 := hx.cell y2
              have y3 := hx.cell y3
              refine reg.want_yes rfl rfl rfl s41 rfl ?_
              change Oper.wp _ _ ra w' _ _
              refine reg.wp_value (v := .slice (some ⟨g2, 0, none⟩) ts.length c2) (w' := w') ?_ ⟨_, rfl, reg.Ext.refl _, rfl⟩
              intro ρ rc rf rg re
              rw [re] at s1 s41
              simp [execOp, go_sem, rc, rf, rg, s1, s41] <;> first | omega | rfl | decide
            · -- 31: slot 48 := Op.move t5
              intro ra w' hx hs
              have s5 : ra.eval (.tmp 5) = .int .i64 k := hs.1
              have s41 : ra.eval (.tmp 41) = .bool false := hs.2.1
              clear hs
              have x0 := hx.cell x0
              have x1 := hx.cell x1
              have x2 := hx.cell x2
              have x3 := hx.cell x3
              have y0 := hx.cell y0
              have y1 := hx.cell y1
              have y2 := hx.cell y2
              have y3 := hx.cell y3
              refine reg.want_yes rfl rfl rfl s41 rfl ?_
              change Oper.wp _ _ ra w' _ _
              refine reg.wp_value (v := .int .i64 k) (w' := w') ?_ ⟨_, rfl, reg.Ext.refl _, rfl⟩
              intro ρ rc rf rg re
              rw [re] at s5 s41
              simp [execOp, go_sem, rc, rf, rg, s5, s41] <;> first | omega | rfl | decide
            · -- 32: slot 49 := Op.indexAddr 22 t47 t48
              intro ra w' hx hs
              have s47 : ra.eval (.tmp 47) = .slice (some ⟨g2, 0, none⟩) ts.length c2 := hs.1
              have s48 : ra.eval (.tmp 48) = .int .i64 k := hs.2.1
              have s41 : ra.eval (.tmp 41) = .bool false := hs.2.2.1
              clear hs
              have x0 := hx.cell x0
              have x1 := hx.cell x1
              have x2 := hx.cell x2
              have x3 := hx.cell x3
              have y0 := hx.cell y0
              have y1 := hx.cell y1
              have y2 := hx.cell y2
              have y3 := hx.cell y3
              refine reg.want_yes rfl rfl rfl s41 rfl ?_
              change Oper.wp _ _ ra w' _ _
              refine reg.wp_value (v := .pointer (some ⟨g2, k * 4, none⟩)) (w' := w') ?_ ⟨_, rfl, reg.Ext.refl _, rfl⟩
              intro ρ rc rf rg re
              rw [re] at s47 s48 s41
              simp [execOp, go_sem, rc, rf, rg, s47, s48, s41, hkI] <;> first | omega | rfl | decide
            · -- 33: slot 50 := Op.fieldAddr 38 t49 3
              intro ra w' hx hs
              have s49 : ra.eval (.tmp 49) = .pointer (some ⟨g2, k * 4, none⟩) := hs.1
              have s41 : ra.eval (.tmp 41) = .bool false := hs.2.1
              clear hs
              have x0 := hx.cell x0
              have x1 := hx.cell x1
              have x2 := hx.cell x2
              have x3 := hx.cell x3
              have y0 := hx.cell y0
              have y1 := hx.cell y1
              have y2 := hx.cell y2
              have y3 := hx.cell y3
              refine reg.want_yes rfl rfl rfl s41 rfl ?_
              change Oper.wp _ _ ra w' _ _
              refine reg.wp_value (v := .pointer (some ⟨g2, k * 4 + 3, none⟩)) (w' := w') ?_ ⟨_, rfl, reg.Ext.refl _, rfl⟩
              intro ρ rc rf rg re
              rw [re] at s49 s41
              simp [execOp, go_sem, rc, rf, rg, s49, s41] <;> first | omega | rfl | decide
            · -- 34: slot 51 := Op.load 3 t50
              intro ra w' hx hs
              have s50 : ra.eval (.tmp 50) = .pointer (some ⟨g2, k * 4 + 3, none⟩) := hs.1
              have s41 : ra.eval (.tmp 41) = .bool false := hs.2.1
              clear hs
              have x0 := hx.cell x0
              have x1 := hx.cell x1
              have x2 := hx.cell x2
              have x3 := hx.cell x3
              have y0 := hx.cell y0
              have y1 := hx.cell y1
              have y2 := hx.cell y2
              have y3 := hx.cell y3
              refine reg.want_yes rfl rfl rfl s41 rfl ?_
              change Oper.wp _ _ ra w' _ _
              refine reg.wp_value (v := .int .i64 at_) (w' := w') ?_ ⟨_, rfl, reg.Ext.refl _, rfl⟩
              intro ρ rc rf rg re
              rw [re] at s50 s41
              simp [execOp, go_sem, rc, rf, rg, s50, s41, y3] <;> first | omega | rfl | decide
            · -- 35: slot 52 := Op.binOp BinOp.neq 3 t46 t51 3
              intro ra w' hx hs
              have s46 : ra.eval (.tmp 46) = .int .i64 at_ := hs.1
              have s51 : ra.eval (.tmp 51) = .int .i64 at_ := hs.2.1
              have s41 : ra.eval (.tmp 41) = .bool false := hs.2.2.1
              clear hs
              have x0 := hx.cell x0
              have x1 := hx.cell x1
              have x2 := hx.cell x2
              have x3 := hx.cell x3
              have y0 := hx.cell y0
              have y1 := hx.cell y1
              have y2 := hx.cell y2
              have y3 := hx.cell y3
              refine reg.want_yes rfl rfl rfl s41 rfl ?_
              change Oper.wp _ _ ra w' _ _
              refine reg.wp_value (v := .bool false) (w' := w') ?_ ⟨_, rfl, reg.Ext.refl _, rfl⟩
              intro ρ rc rf rg re
              rw [re] at s46 s51 s41
              simp [execOp, go_sem, rc, rf, rg, s46, s51, s41] <;> first | omega | rfl | decide
            · -- 36: slot 53 := Op.pick t41 (const (Value.bool true)) t52
              intro ra w' hx hs
              have s41 : ra.eval (.tmp 41) = .bool false := hs.1
              have s52 : ra.eval (.tmp 52) = .bool false := hs.2.1
              clear hs
              have x0 := hx.cell x0
              have x1 := hx.cell x1
              have x2 := hx.cell x2
              have x3 := hx.cell x3
              have y0 := hx.cell y0
              have y1 := hx.cell y1
              have y2 := hx.cell y2
              have y3 := hx.cell y3
              change Oper.wp _ _ ra w' _ _
              refine reg.wp_value (v := .bool false) (w' := w') ?_ ⟨_, rfl, reg.Ext.refl _, rfl⟩
              intro ρ rc rf rg re
              rw [re] at s41 s52
              simp [execOp, go_sem, rc, rf, rg, s41, s52] <;> first | omega | rfl | decide
            · -- 37: slot 54 := Op.move t53
              intro ra w' hx hs
              have s53 : ra.eval (.tmp 53) = .bool false := hs.1
              clear hs
              have x0 := hx.cell x0
              have x1 := hx.cell x1
              have x2 := hx.cell x2
              have x3 := hx.cell x3
              have y0 := hx.cell y0
              have y1 := hx.cell y1
              have y2 := hx.cell y2
              have y3 := hx.cell y3
              change Oper.wp _ _ ra w' _ _
              refine reg.wp_value (v := .bool false) (w' := w') ?_ ⟨_, rfl, reg.Ext.refl _, rfl⟩
              intro ρ rc rf rg re
              rw [re] at s53
              simp [execOp, go_sem, rc, rf, rg, s53] <;> first | omega | rfl | decide
            · -- 38: slot 55 := Op.move t0
              intro ra w' hx hs
              have s0 : ra.eval (.tmp 0) = .slice (some ⟨g1, 0, none⟩) ts.length c1 := hs.1
              have s54 : ra.eval (.tmp 54) = .bool false := hs.2.1
              clear hs
              have x0 := hx.cell x0
              have x1 := hx.cell x1
              have x2 := hx.cell x2
              have x3 := hx.cell x3
              have y0 := hx.cell y0
              have y1 := hx.cell y1
              have y2 := hx.cell y2
              have y3 := hx.cell y3
              refine reg.want_yes rfl rfl rfl s54 rfl ?_
              change Oper.wp _ _ ra w' _ _
              refine reg.wp_value (v := .slice (some ⟨g1, 0, none⟩) ts.length c1) (w' := w') ?_ ⟨_, rfl, reg.Ext.refl _, rfl⟩
              intro ρ rc rf rg re
              rw [re] at s0 s54
              simp [execOp, go_sem, rc, rf, rg, s0, s54] <;> first | omega | rfl | decide
            · -- 39: slot 56 := Op.move t5
              intro ra w' hx hs
              have s5 : ra.eval (.tmp 5) = .int .i64 k := hs.1
              have s54 : ra.eval (.tmp 54) = .bool false := hs.2.1
              clear hs
              have x0 := hx.cell x0
              have x1 := hx.cell x1
              have x2 := hx.cell x2
              have x3 := hx.cell x3
              have y0 := hx.cell y0
              have y1 := hx.cell y1
              have y2 := hx.cell y2
              have y3 := hx.cell y3
              refine reg.want_yes rfl rfl rfl s54 rfl ?_
              change Oper.wp _ _ ra w' _ _
              refine reg.wp_value (v := .int .i64 k) (w' := w') ?_ ⟨_, rfl, reg.Ext.refl _, rfl⟩
              intro ρ rc rf rg re
              rw [re] at s5 s54
              simp [execOp, go_sem, rc, rf, rg, s5, s54] <;> first | omega | rfl | decide
            · -- 40: slot 57 := Op.indexAddr 22 t55 t56
              intro ra w' hx hs
              have s55 : ra.eval (.tmp 55) = .slice (some ⟨g1, 0, none⟩) ts.length c1 := hs.1
              have s56 : ra.eval (.tmp 56) = .int .i64 k := hs.2.1
              have s54 : ra.eval (.tmp 54) = .bool false := hs.2.2.1
              clear hs
              have x0 := hx.cell x0
              have x1 := hx.cell x1
              have x2 := hx.cell x2
              have x3 := hx.cell x3
              have y0 := hx.cell y0
              have y1 := hx.cell y1
              have y2 := hx.cell y2
              have y3 := hx.cell y3
              refine reg.want_yes rfl rfl rfl s54 rfl ?_
              change Oper.wp _ _ ra w' _ _
              refine reg.wp_value (v := .pointer (some ⟨g1, k * 4, none⟩)) (w' := w') ?_ ⟨_, rfl, reg.Ext.refl _, rfl⟩
              intro ρ rc rf rg re
              rw [re] at s55 s56 s54
              simp [execOp, go_sem, rc, rf, rg, s55, s56, s54, hkI] <;> first | omega | rfl | decide
            · -- 41: slot 58 := Op.fieldAddr 38 t57 2
              intro ra w' hx hs
              have s57 : ra.eval (.tmp 57) = .pointer (some ⟨g1, k * 4, none⟩) := hs.1
              have s54 : ra.eval (.tmp 54) = .bool false := hs.2.1
              clear hs
              have x0 := hx.cell x0
              have x1 := hx.cell x1
              have x2 := hx.cell x2
              have x3 := hx.cell x3
              have y0 := hx.cell y0
              have y1 := hx.cell y1
              have y2 := hx.cell y2
              have y3 := hx.cell y3
              refine reg.want_yes rfl rfl rfl s54 rfl ?_
              change Oper.wp _ _ ra w' _ _
              refine reg.wp_value (v := .pointer (some ⟨g1, k * 4 + 2, none⟩)) (w' := w') ?_ ⟨_, rfl, reg.Ext.refl _, rfl⟩
              intro ρ rc rf rg re
              rw [re] at s57 s54
              simp [execOp, go_sem, rc, rf, rg, s57, s54] <;> first | omega | rfl | decide
            · -- 42: slot 59 := Op.load 36 t58
              intro ra w' hx hs
              have s58 : ra.eval (.tmp 58) = .pointer (some ⟨g1, k * 4 + 2, none⟩) := hs.1
              have s54 : ra.eval (.tmp 54) = .bool false := hs.2.1
              clear hs
              have x0 := hx.cell x0
              have x1 := hx.cell x1
              have x2 := hx.cell x2
              have x3 := hx.cell x3
              have y0 := hx.cell y0
              have y1 := hx.cell y1
              have y2 := hx.cell y2
              have y3 := hx.cell y3
              refine reg.want_yes rfl rfl rfl s54 rfl ?_
              change Oper.wp _ _ ra w' _ _
              refine reg.wp_value (v := .float .f64 nm) (w' := w') ?_ ⟨_, rfl, reg.Ext.refl _, rfl⟩
              intro ρ rc rf rg re
              rw [re] at s58 s54
              simp [execOp, go_sem, rc, rf, rg, s58, s54, x2] <;> first | omega | rfl | decide
            · -- 43: slot 60 := Op.move t1
              intro ra w' hx hs
              have s1 : ra.eval (.tmp 1) = .slice (some ⟨g2, 0, none⟩) ts.length c2 := hs.1
              have s54 : ra.eval (.tmp 54) = .bool false := hs.2.1
              clear hs
              have x0 := hx.cell x0
              have x1 := hx.cell x1
              have x2 := hx.cell x2
              have x3 := hx.cell x3
              have y0 := hx.cell y0
              have y1 := hx.cell y1
              have y2 := hx.cell y2
              have y3 := hx.cell y3
              refine reg.want_yes rfl rfl rfl s54 rfl ?_
              change Oper.wp _ _ ra w' _ _
              refine reg.wp_value (v := .slice (some ⟨g2, 0, none⟩) ts.length c2) (w' := w') ?_ ⟨_, rfl, reg.Ext.refl _, rfl⟩
              intro ρ rc rf rg re
              rw [re] at s1 s54
              simp [execOp, go_sem, rc, rf, rg, s1, s54] <;> first | omega | rfl | decide
            · -- 44: slot 61 := Op.move t5
              intro ra w' hx hs
              have s5 : ra.eval (.tmp 5) = .int .i64 k := hs.1
              have s54 : ra.eval (.tmp 54) = .bool false := hs.2.1
              clear hs
              have x0 := hx.cell x0
              have x1 := hx.cell x1
              have x2 := hx.cell x2
              have x3 := hx.cell x3
              have y0 := hx.cell y0
              have y1 := hx.cell y1
              have y2 := hx.cell y2
              have y3 := hx.cell y3
              refine reg.want_yes rfl rfl rfl s54 rfl ?_
              change Oper.wp _ _ ra w' _ _
              refine reg.wp_value (v := .int .i64 k) (w' := w') ?_ ⟨_, rfl, reg.Ext.refl _, rfl⟩
              intro ρ rc rf rg re
              rw [re] at s5 s54
              simp [execOp, go_sem, rc, rf, rg, s5, s54] <;> first | omega | rfl | decide
            · -- 45: slot 62 := Op.indexAddr 22 t60 t61
              intro ra w' hx hs
              have s60 : ra.eval (.tmp 60) = .slice (some ⟨g2, 0, none⟩) ts.length c2 := hs.1
              have s61 : ra.eval (.tmp 61) = .int .i64 k := hs.2.1
              have s54 : ra.eval (.tmp 54) = .bool false := hs.2.2.1
              clear hs
              have x0 := hx.cell x0
              have x1 := hx.cell x1
              have x2 := hx.cell x2
              have x3 := hx.cell x3
              have y0 := hx.cell y0
              have y1 := hx.cell y1
              have y2 := hx.cell y2
              have y3 := hx.cell y3
              refine reg.want_yes rfl rfl rfl s54 rfl ?_
              change Oper.wp _ _ ra w' _ _
              refine reg.wp_value (v := .pointer (some ⟨g2, k * 4, none⟩)) (w' := w') ?_ ⟨_, rfl, reg.Ext.refl _, rfl⟩
              intro ρ rc rf rg re
              rw [re] at s60 s61 s54
              simp [execOp, go_sem, rc, rf, rg, s60, s61, s54, hkI] <;> first | omega | rfl | decide
            · -- 46: slot 63 := Op.fieldAddr 38 t62 2
              intro ra w' hx hs
              have s62 : ra.eval (.tmp 62) = .pointer (some ⟨g2, k * 4, none⟩) := hs.1
              have s54 : ra.eval (.tmp 54) = .bool false := hs.2.1
              clear hs
              have x0 := hx.cell x0
              have x1 := hx.cell x1
              have x2 := hx.cell x2
              have x3 := hx.cell x3
              have y0 := hx.cell y0
              have y1 := hx.cell y1
              have y2 := hx.cell y2
              have y3 := hx.cell y3
              refine reg.want_yes rfl rfl rfl s54 rfl ?_
              change Oper.wp _ _ ra w' _ _
              refine reg.wp_value (v := .pointer (some ⟨g2, k * 4 + 2, none⟩)) (w' := w') ?_ ⟨_, rfl, reg.Ext.refl _, rfl⟩
              intro ρ rc rf rg re
              rw [re] at s62 s54
              simp [execOp, go_sem, rc, rf, rg, s62, s54] <;> first | omega | rfl | decide
            · -- 47: slot 64 := Op.load 36 t63
              intro ra w' hx hs
              have s63 : ra.eval (.tmp 63) = .pointer (some ⟨g2, k * 4 + 2, none⟩) := hs.1
              have s54 : ra.eval (.tmp 54) = .bool false := hs.2.1
              clear hs
              have x0 := hx.cell x0
              have x1 := hx.cell x1
              have x2 := hx.cell x2
              have x3 := hx.cell x3
              have y0 := hx.cell y0
              have y1 := hx.cell y1
              have y2 := hx.cell y2
              have y3 := hx.cell y3
              refine reg.want_yes rfl rfl rfl s54 rfl ?_
              change Oper.wp _ _ ra w' _ _
              refine reg.wp_value (v := .float .f64 nm) (w' := w') ?_ ⟨_, rfl, reg.Ext.refl _, rfl⟩
              intro ρ rc rf rg re
              rw [re] at s63 s54
              simp [execOp, go_sem, rc, rf, rg, s63, s54, y2] <;> first | omega | rfl | decide
            · -- 48: slot 65 := Op.call { value (Operand.func 13), args := #[t59, t64], argTypes := #[36, 36] }
              intro ra w' hx hs
              have s59 : ra.eval (.tmp 59) = .float .f64 nm := hs.1
              have s64 : ra.eval (.tmp 64) = .float .f64 nm := hs.2.1
              have s54 : ra.eval (.tmp 54) = .bool false := hs.2.2.1
              clear hs
              have x0 := hx.cell x0
              have x1 := hx.cell x1
              have x2 := hx.cell x2
              have x3 := hx.cell x3
              have y0 := hx.cell y0
              have y1 := hx.cell y1
              have y2 := hx.cell y2
              have y3 := hx.cell y3
              refine reg.want_yes rfl rfl rfl s54 rfl ?_
              change Oper.wp _ _ ra w' _ _
              refine reg.wp_call (f := 13) (args := #[fv nm, fv nm]) (w' := w') ?_ ((same_one nm w').mono ?_)
              · intro ρ rc rf rg re
                rw [re] at s59 s64 s54
                simp [execOp, go_sem, rc, rf, rg, s59, s64, s54] <;> first | omega | rfl | decide
              · rintro e w2 ⟨rfl, rfl⟩
                exact ⟨_, rfl, _, rfl, Below.refl _ _, rfl⟩
            · -- 49: slot 66 := Op.unOp UnOp.not 4 t65
              intro ra w' hx hs
              have s65 : ra.eval (.tmp 65) = .bool true := hs.1
              have s54 : ra.eval (.tmp 54) = .bool false := hs.2.1
              clear hs
              have x0 := hx.cell x0
              have x1 := hx.cell x1
              have x2 := hx.cell x2
              have x3 := hx.cell x3
              have y0 := hx.cell y0
              have y1 := hx.cell y1
              have y2 := hx.cell y2
              have y3 := hx.cell y3
              refine reg.want_yes rfl rfl rfl s54 rfl ?_
              change Oper.wp _ _ ra w' _ _
              refine reg.wp_value (v := .bool false) (w' := w') ?_ ⟨_, rfl, reg.Ext.refl _, rfl⟩
              intro ρ rc rf rg re
              rw [re] at s65 s54
              simp [execOp, go_sem, rc, rf, rg, s65, s54] <;> first | omega | rfl | decide
            · -- 50: slot 67 := Op.pick t54 (const (Value.bool true)) t66
              intro ra w' hx hs
              have s54 : ra.eval (.tmp 54) = .bool false := hs.1
              have s66 : ra.eval (.tmp 66) = .bool false := hs.2.1
              clear hs
              have x0 := hx.cell x0
              have x1 := hx.cell x1
              have x2 := hx.cell x2
              have x3 := hx.cell x3
              have y0 := hx.cell y0
              have y1 := hx.cell y1
              have y2 := hx.cell y2
              have y3 := hx.cell y3
              change Oper.wp _ _ ra w' _ _
              refine reg.wp_value (v := .bool false) (w' := w') ?_ ⟨_, rfl, reg.Ext.refl _, rfl⟩
              intro ρ rc rf rg re
              rw [re] at s54 s66
              simp [execOp, go_sem, rc, rf, rg, s54, s66] <;> first | omega | rfl | decide
          intro rV w6 hx6 hf
          have ve0 : rV 0 = .slice (some ⟨g1, 0, none⟩) ts.length c1 := hf 0 (by decide)
          have ve1 : rV 1 = .int .i64 k := hf 1 (by decide)
          have ve2 : rV 2 = .pointer (some ⟨g1, k * 4, none⟩) := hf 2 (by decide)
          have ve3 : rV 3 = .pointer (some ⟨g1, k * 4, none⟩) := hf 3 (by decide)
          have ve4 : rV 4 = .int .i64 kd := hf 4 (by decide)
          have ve5 : rV 5 = .slice (some ⟨g2, 0, none⟩) ts.length c2 := hf 5 (by decide)
          have ve6 : rV 6 = .int .i64 k := hf 6 (by decide)
          have ve7 : rV 7 = .pointer (some ⟨g2, k * 4, none⟩) := hf 7 (by decide)
          have ve8 : rV 8 = .pointer (some ⟨g2, k * 4, none⟩) := hf 8 (by decide)
          have ve9 : rV 9 = .int .i64 kd := hf 9 (by decide)
          have ve10 : rV 10 = .bool false := hf 10 (by decide)
          have ve11 : rV 11 = .bool false := hf 11 (by decide)
          have ve12 : rV 12 = .slice (some ⟨g1, 0, none⟩) ts.length c1 := hf 12 (by decide)
          have ve13 : rV 13 = .int .i64 k := hf 13 (by decide)
          have ve14 : rV 14 = .pointer (some ⟨g1, k * 4, none⟩) := hf 14 (by decide)
          have ve15 : rV 15 = .pointer (some ⟨g1, k * 4 + 1, none⟩) := hf 15 (by decide)
          have ve16 : rV 16 = .string ⟨u.toArray⟩ := hf 16 (by decide)
          have ve17 : rV 17 = .slice (some ⟨g2, 0, none⟩) ts.length c2 := hf 17 (by decide)
          have ve18 : rV 18 = .int .i64 k := hf 18 (by decide)
          have ve19 : rV 19 = .pointer (some ⟨g2, k * 4, none⟩) := hf 19 (by decide)
          have ve20 : rV 20 = .pointer (some ⟨g2, k * 4 + 1, none⟩) := hf 20 (by decide)
          have ve21 : rV 21 = .string ⟨u.toArray⟩ := hf 21 (by decide)
          have ve22 : rV 22 = .bool false := hf 22 (by decide)
          have ve23 : rV 23 = .bool false := hf 23 (by decide)
          have ve24 : rV 24 = .bool false := hf 24 (by decide)
          have ve25 : rV 25 = .slice (some ⟨g1, 0, none⟩) ts.length c1 := hf 25 (by decide)
          have ve26 : rV 26 = .int .i64 k := hf 26 (by decide)
          have ve27 : rV 27 = .pointer (some ⟨g1, k * 4, none⟩) := hf 27 (by decide)
          have ve28 : rV 28 = .pointer (some ⟨g1, k * 4 + 3, none⟩) := hf 28 (by decide)
          have ve29 : rV 29 = .int .i64 at_ := hf 29 (by decide)
          have ve30 : rV 30 = .slice (some ⟨g2, 0, none⟩) ts.length c2 := hf 30 (by decide)
          have ve31 : rV 31 = .int .i64 k := hf 31 (by decide)
          have ve32 : rV 32 = .pointer (some ⟨g2, k * 4, none⟩) := hf 32 (by decide)
          have ve33 : rV 33 = .pointer (some ⟨g2, k * 4 + 3, none⟩) := hf 33 (by decide)
          have ve34 : rV 34 = .int .i64 at_ := hf 34 (by decide)
          have ve35 : rV 35 = .bool false := hf 35 (by decide)
          have ve36 : rV 36 = .bool false := hf 36 (by decide)
          have ve37 : rV 37 = .bool false := hf 37 (by decide)
          have ve38 : rV 38 = .slice (some ⟨g1, 0, none⟩) ts.length c1 := hf 38 (by decide)
          have ve39 : rV 39 = .int .i64 k := hf 39 (by decide)
          have ve40 : rV 40 = .pointer (some ⟨g1, k * 4, none⟩) := hf 40 (by decide)
          have ve41 : rV 41 = .pointer (some ⟨g1, k * 4 + 2, none⟩) := hf 41 (by decide)
          have ve42 : rV 42 = .float .f64 nm := hf 42 (by decide)
          have ve43 : rV 43 = .slice (some ⟨g2, 0, none⟩) ts.length c2 := hf 43 (by decide)
          have ve44 : rV 44 = .int .i64 k := hf 44 (by decide)
          have ve45 : rV 45 = .pointer (some ⟨g2, k * 4, none⟩) := hf 45 (by decide)
          have ve46 : rV 46 = .pointer (some ⟨g2, k * 4 + 2, none⟩) := hf 46 (by decide)
          have ve47 : rV 47 = .float .f64 nm := hf 47 (by decide)
          have ve48 : rV 48 = .bool true := hf 48 (by decide)
          have ve49 : rV 49 = .bool false := hf 49 (by decide)
          have ve50 : rV 50 = .bool false := hf 50 (by decide)
          clear hf
          simp only [List.zipIdx_cons, List.zipIdx_nil, List.foldl_cons, List.foldl_nil, Act.put, Nat.reduceAdd, List.setIfInBounds_toArray, List.set_cons_succ, List.set_cons_zero, ve0, ve1, ve2, ve3, ve4, ve5, ve6, ve7, ve8, ve9, ve10, ve11, ve12, ve13, ve14, ve15, ve16, ve17, ve18, ve19, ve20, ve21, ve22, ve23, ve24, ve25, ve26, ve27, ve28, ve29, ve30, ve31, ve32, ve33, ve34, ve35, ve36, ve37, ve38, ve39, ve40, ve41, ve42, ve43, ve44, ve45, ve46, ve47, ve48, ve49, ve50]
          clear ve0 ve1 ve2 ve3 ve4 ve5 ve6 ve7 ve8 ve9 ve10 ve11 ve12 ve13 ve14 ve15 ve16 ve17 ve18 ve19 ve20 ve21 ve22 ve23 ve24 ve25 ve26 ve27 ve28 ve29 ve30 ve31 ve32 ve33 ve34 ve35 ve36 ve37 ve38 ve39 ve40 ve41 ve42 ve43 ve44 ve45 ve46 ve47 ve48 ve49 ve50
          clear rV
          have HB6 : Hid (Below w.heap.size w w6) := HB.out.trans ((show Below wr.heap.size wr w6 from ⟨hx6.os, hx6.tape, hx6.output, hx6.size, hx6.block⟩).mono HB.out.size)
          clear hx6 x0 x1 x2 x3 y0 y1 y2 y3
          go_wp2_with fail
          go_roundw
          case rel => exact ⟨k + 1, by omega, by go_num, HB6⟩
          case measure => simp [intOf]; omega
    · go_wp2_with fail
      go_ret
      exact ⟨rfl, HB.out⟩
theorem Spoil_any (b1 : Nat) (v1 : Value) (ts : List Tk) (w : World) (h1 : TRow w b1 v1 ts) (hn : ts.length ≤ 100000) :
    Calls Tryz.prog 8 #[v1] w fun e w' => (∃ v, e = .returned v) ∧ Turned v1.ownBlock.toList w w' := by
  rcases h1.cells with ⟨rfl, h0⟩ | ⟨g, c, rfl, hg, -, hc, hc', hcell⟩
  · go_enter Tryz.func8, Tryz.ntmps8
    go_wp2_with fail
    go_loopw [2] (fun i wr => i = .int .i64 0 ∧ Hid (w = wr)) (fun _ _ => 0)
    case atStart => exact ⟨rfl, rfl⟩
    case round =>
      obtain ⟨rfl, hw⟩ := hrel
      obtain rfl := hw.out
      go_wp2_with fail
      go_end0
      exact ⟨⟨_, rfl⟩, Turned.refl _ _⟩
  · obtain ⟨cs0, hcs0⟩ : ∃ cs, w.heap[g]? = some (.cells cs 38 (0, 0)) := by
      obtain ⟨_, ⟨hv, _⟩ | ⟨g', c', cur, hv, h2, h3, _⟩⟩ := h1
      · simp at hv
      · simp at hv
        obtain ⟨rfl, rfl⟩ := hv
        exact ⟨_, h3⟩
    have HZ0 : Hid (∀ i, i < ts.length → ∃ z, w.cell? ⟨g, i * 4 + 3, none⟩ = some (.int .i64 z)) := fun i hi => ⟨_, (hcell i _ (List.getElem?_eq_getElem hi)).2.2.2⟩
    have HC0 : Hid (∃ cs, w.heap[g]? = some (.cells cs 38 (0, 0))) := ⟨_, hcs0⟩
    have hown : (Value.slice (some ⟨g, 0, none⟩) ts.length c).ownBlock.toList = [g] := rfl
    rw [hown]
    unfold maxLen at hc'
    clear hcell hcs0 h1 hown
    go_enter Tryz.func8, Tryz.ntmps8
    go_wp2_with fail
    go_loopw [2] (fun i wr => ∃ k : Nat, k ≤ ts.length ∧ i = .int .i64 k ∧ Hid (∃ cs, wr.heap[g]? = some (.cells cs 38 (0, 0))) ∧ Hid (∀ i, i < ts.length → ∃ z, wr.cell? ⟨g, i * 4 + 3, none⟩ = some (.int .i64 z)) ∧ Hid (Turned [g] w wr)) (fun i _ => ts.length - (intOf i).toNat)
    case atStart => exact ⟨0, Nat.zero_le _, rfl, HC0, HZ0, Turned.refl _ _⟩
    case round =>
      obtain ⟨k, hk, rfl, HC, HZ2, HT⟩ := hrel
      by_cases hlt : k < ts.length
      · obtain ⟨cs, hcs⟩ := HC.out
        obtain ⟨z, hz⟩ := HZ2.out k hlt
        have hkI : (k : Int) < (ts.length : Int) := by omega
        have hf : wr.frozen? ⟨g, k * 4 + 3, none⟩ = false := blk_free hcs _
        have HN : ∀ v, Hid (∃ cs, (wr.setCell ⟨g, k * 4 + 3, none⟩ v).heap[g]? = some (.cells cs 38 (0, 0))) := fun v => ⟨_, blk_set hcs _ _⟩
        have HM : ∀ y, Hid (∀ i, i < ts.length → ∃ z, (wr.setCell ⟨g, k * 4 + 3, none⟩ (.int .i64 y)).cell? ⟨g, i * 4 + 3, none⟩ = some (.int .i64 z)) := fun y i hi => by
          rw [blk_cell (blk_set hcs _ _), Array.getElem?_setIfInBounds]
          obtain ⟨z, hz⟩ := HZ2.out i hi
          rw [blk_cell hcs] at hz
          by_cases e : k * 4 + 3 = i * 4 + 3
          · have : k * 4 + 3 < cs.size := by rw [e]; exact (Array.getElem?_eq_some_iff.1 hz).1
            rw [if_pos e, if_pos this]; exact ⟨y, rfl⟩
          · rw [if_neg e]; exact ⟨z, hz⟩
        have HN' := Lib.hid HN
        have HM' := Lib.hid HM
        clear HN HM hcs
        go_wp2_with fail
        go_roundw
        case rel => exact ⟨k + 1, by omega, by go_num, HN'.out _, HM'.out _, HT.out.setCell (by simp) _⟩
        case measure => simp [intOf]; omega
      · go_wp2_with fail
        go_end0
        exact ⟨⟨_, rfl⟩, HT.out⟩
theorem scan_few (f : Nat) (t : List UInt8) (a : Nat) (h : t.length < f) : (scanF f t a).1.length ≤ t.length + 1 := by
  induction f generalizing t a with
  | zero => omega
  | succ f ih =>
    rw [scanF]
    split
    · simp
    · rename_i h0
      split
      · simp
      · rename_i x hx
        have hl := tok_len h0 hx
        have := ih ((t.drop x.2.2.2).drop (skp false (t.drop x.2.2.2))) (a + x.2.2.2 + skp false (t.drop x.2.2.2)) (by rw [List.length_drop, List.length_drop]; omega)
        rw [List.length_drop, List.length_drop] at this
        simp only [List.length_cons]
        omega
theorem okT_few (L : List UInt8) : (okT (scanL L)).length ≤ 20000 := by
  unfold okT
  split
  · unfold scanL
    split
    · simp
    · have := scan_few (L.length + 1) (L.drop (skp false L)) (skp false L) (by rw [List.length_drop]; omega)
      rw [List.length_drop] at this
      omega
  · simp
theorem Tokens_row (s : ByteArray) (w : World) (hs : s.size ≤ 1000000000) (htab : Lib.TabIs Tryz.prog w "strings.asciiSpace" .u8 Lib.asciiSpaceTab) :
    Calls Tryz.prog 4 #[.string s] w fun e w' => ∃ v, e = .returned (.tuple #[v, .int .i64 (scanL s.data.toList).2.1, .int .i64 (scanL s.data.toList).2.2]) ∧ TRow w' w.heap.size v (okT (scanL s.data.toList)) ∧ Below w.heap.size w w' := by
  refine (Tokens_any s w hs htab).mono ?_
  rintro e w' ⟨v, rfl, h1, h2, hb⟩
  refine ⟨v, rfl, ?_, hb⟩
  unfold okT
  by_cases he : (scanL s.data.toList).2.2 = 0
  · rw [if_pos he]; exact h1 he
  · rw [if_neg he, h2 he]; exact TRow.nil _ _
theorem TRow.turned {w w' : World} {base : Nat} {v : Value} {ts : List Tk} {S : List Nat} (h : TRow w base v ts) (ht : Turned S w w') (hS : ∀ g ∈ v.ownBlock.toList, g ∉ S) : TRow w' base v ts :=
  trow_kept h (fun g o hg ho => ht.kept ho (hS g (by simpa using hg)))
end Go.Proofs.YtjanpaallealgaaGreatDoor.lex

namespace Go.Proofs.YtjanpaallealgaaGreatDoor.lex
open Go.RowKit
open heap
open num (list_len drop_cons)
set_option linter.unusedVariables false
set_option linter.unusedSimpArgs false
set_option maxRecDepth 100000

theorem long_scan (s : ByteArray) (h : 16384 < s.size) : scanL s.data.toList = ([], 0, 1803) := by
  unfold scanL; rw [if_pos (by rw [list_len]; exact h)]
theorem Tokens_long (s : ByteArray) (w : World) (h : 16384 < s.size) (hs : s.size ≤ maxLen) :
    Calls Tryz.prog 4 #[.string s] w fun e w' => e = .returned (.tuple #[.slice none 0 0, .int .i64 0, .int .i64 1803]) ∧ w = w' := by
  unfold maxLen at hs
  have hd : decide (16384 < (s.size : Int)) = true := decide_eq_true (by omega)
  go_enter Tryz.func4, Tryz.ntmps4
  go_wp2_with fail
  exact bodyPost_ret (v := .tuple #[.slice none 0 0, .int .i64 0, .int .i64 1803]) (by simp [results, Tryz.results4, go_sem]) rfl ⟨rfl, rfl⟩
theorem rTokens_long (s : ByteArray) (w : World) (h : 16384 < s.size) (hs : s.size ≤ maxLen) :
    Calls Tryz.prog 5 #[.string s] w fun e w' => e = .returned (.tuple #[.slice none 0 0, .int .i64 0, .int .i64 1803]) ∧ w = w' := by
  unfold maxLen at hs
  have hd : decide (16384 < (s.size : Int)) = true := decide_eq_true (by omega)
  have HS : Hid (∀ W, Calls Tryz.prog 12 #[.string s] W fun e w' => e = .returned (.tuple #[.slice none 0 0, .int .i64 0, .int .i64 1803]) ∧ W = w') := fun W => by
    go_enter Tryz.func12, Tryz.ntmps12
    go_wp2_with fail
    exact bodyPost_ret (v := .tuple #[.slice none 0 0, .int .i64 0, .int .i64 1803]) (by simp [results, Tryz.results12, go_sem]) rfl ⟨rfl, rfl⟩
  go_enter Tryz.func5, Tryz.ntmps5
  go_wp2_with (go_at_call 12; refine (HS.out _).mono ?_; rintro e w' ⟨rfl, rfl⟩)
  exact bodyPost_ret (v := .tuple #[.slice none 0 0, .int .i64 0, .int .i64 1803]) (by simp [results, Tryz.results5, go_sem]) rfl ⟨rfl, rfl⟩
theorem Tok_all (s : ByteArray) (w : World) (hs : s.size ≤ maxLen) (htab : Lib.TabIs Tryz.prog w "strings.asciiSpace" .u8 Lib.asciiSpaceTab) :
    Calls Tryz.prog 4 #[.string s] w fun e w' => ∃ v, e = .returned (.tuple #[v, .int .i64 (scanL s.data.toList).2.1, .int .i64 (scanL s.data.toList).2.2]) ∧ TRow w' w.heap.size v (okT (scanL s.data.toList)) ∧ Below w.heap.size w w' := by
  by_cases h : 16384 < s.size
  · refine (Tokens_long s w h hs).mono ?_
    rintro e w' ⟨rfl, rfl⟩
    rw [long_scan s h]
    exact ⟨_, rfl, TRow.nil _ _, Below.refl _ _⟩
  · exact Tokens_row s w (by omega) htab
theorem rTok_all (s : ByteArray) (w : World) (hs : s.size ≤ maxLen) :
    Calls Tryz.prog 5 #[.string s] w fun e w' => ∃ v, e = .returned (.tuple #[v, .int .i64 (scanL s.data.toList).2.1, .int .i64 (scanL s.data.toList).2.2]) ∧ TRow w' w.heap.size v (okT (scanL s.data.toList)) ∧ Below w.heap.size w w' := by
  by_cases h : 16384 < s.size
  · refine (rTokens_long s w h hs).mono ?_
    rintro e w' ⟨rfl, rfl⟩
    rw [long_scan s h]
    exact ⟨_, rfl, TRow.nil _ _, Below.refl _ _⟩
  · exact rTokens_any s w (by omega)
set_option maxHeartbeats 4000000 in
theorem lexTexts_any (s : ByteArray) (w : World) (hs : s.size ≤ maxLen) (htab : Lib.TabIs Tryz.prog w "strings.asciiSpace" .u8 Lib.asciiSpaceTab) :
    Calls Tryz.prog 3 #[.string s] w fun e w' => e = .returned (.bool true) ∧ Below w.heap.size w w' := by
  have HT := Lib.hid (fun W (h : Below w.heap.size w W) => Tok_all s W hs (tab_below htab h))
  have HR := Lib.hid (fun W => rTok_all s W hs)
  have HW := Lib.hid (fun W (h : Below w.heap.size w W) => awake_any W (tab_below htab h))
  have HF := Lib.hid (okT_few s.data.toList)
  clear htab hs
  generalize scanL s.data.toList = lx at *
  generalize okT lx = ts at *
  obtain ⟨l1, p, er⟩ := lx
  simp only at HT HR
  go_enter Tryz.func3, Tryz.ntmps3
  go_wp2_with fail
  refine (HT.out _ (Below.refl _ _)).mono ?_; rintro e w1 ⟨va, rfl, hra, hb1⟩
  have HRA := Lib.hid hra
  have HB1 := Lib.hid hb1
  clear hra hb1
  go_wp2_with fail
  refine (HT.out _ HB1.out).mono ?_; rintro e w2 ⟨vb, rfl, hrb, hb2⟩
  have HRA2 := Lib.hid (HRA.out.below hb2)
  have HRB := Lib.hid hrb
  have HB2 := Lib.hid (HB1.out.trans (hb2.mono HB1.out.size))
  have HZ1 := Lib.hid HRA.out.own_lt
  have HZ2 := Lib.hid HRB.out.own_lt
  have HL12 := Lib.hid hb2.size
  clear hrb hb2 HRA
  go_wp2_with fail
  refine (HR.out _).mono ?_; rintro e w3 ⟨vu, rfl, hru, hb3⟩
  have HRA3 := Lib.hid (HRA2.out.below hb3)
  have HRB3 := Lib.hid (HRB.out.below hb3)
  have HRU := Lib.hid hru
  have HZ3 := Lib.hid HRU.out.own_lt
  have HB3 := Lib.hid (HB2.out.trans (hb3.mono HB2.out.size))
  clear hru hb3 HRA2 HRB HB2
  go_wp2_with fail
  refine (Same_any _ _ _ _ _ _ HRA3.out HRU.out (Nat.le_trans HF.out (by decide))).mono ?_; rintro e w4 ⟨rfl, hb4⟩
  have HRA4 := Lib.hid (HRA3.out.below hb4)
  have HRB4 := Lib.hid (HRB3.out.below hb4)
  have HRU4 := Lib.hid (HRU.out.below hb4)
  have HB4 := Lib.hid (HB3.out.trans (hb4.mono HB3.out.size))
  clear hb4 HRA3 HRB3 HRU HB3
  go_wp2_with (go_at_call 7; refine (Num_any _ _).mono ?_; rintro e w' ⟨rfl, rfl⟩)
  refine (Spoil_any _ _ _ _ HRA4.out (Nat.le_trans HF.out (by decide))).mono ?_; rintro e w5 ⟨⟨vv, rfl⟩, ht5⟩
  have HRB5 : Hid (TRow w5 _ vb ts) := HRB4.out.turned ht5 (fun g hg hm => by
    have h1 := (HZ1.out g hm).2
    have h2 := (HZ2.out g hg).1
    omega)
  have HRU5 : Hid (TRow w5 _ vu ts) := HRU4.out.turned ht5 (fun g hg hm => by
    have h1 := (HZ1.out g hm).2
    have h2 := (HZ3.out g hg).1
    have h3 := HL12.out
    omega)
  have HB5 := Lib.hid (HB4.out.trans (ht5.below HB4.out.size (fun g hg => (HZ1.out g hg).1)))
  clear ht5 HRA4 HRB4 HRU4 HB4
  go_wp2_with fail
  refine (Same_any _ _ _ _ _ _ HRB5.out HRU5.out (Nat.le_trans HF.out (by decide))).mono ?_; rintro e w6 ⟨rfl, hb6⟩
  have HB6 := Lib.hid (HB5.out.trans (hb6.mono HB5.out.size))
  clear hb6 HRB5 HRU5 HB5
  go_wp2_with fail
  refine (HW.out _ HB6.out).mono ?_; rintro e w7 ⟨rfl, hb7⟩
  have HB7 := Lib.hid (HB6.out.trans (hb7.mono HB6.out.size))
  clear hb7
  go_wp2_with fail
  go_ret
  exact ⟨rfl, HB7.out⟩
end Go.Proofs.YtjanpaallealgaaGreatDoor.lex
