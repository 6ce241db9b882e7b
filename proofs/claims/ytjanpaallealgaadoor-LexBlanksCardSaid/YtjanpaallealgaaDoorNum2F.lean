/-
  Proved: what the Go functions num.Dec, num.OfDec, orielref1.Dec and orielref1.OfDec return for every argument; each pair returns the same. Conditions: a text has at most maxLen bytes.
-/
import Derived.Test.YtjanpaallealgaaDoorNumF
import Derived.Deep.RegionWith
namespace Go.Proofs.YtjanpaallealgaaDoor.num
open Go.RowKit
set_option linter.unusedVariables false

theorem bcell {W w1 : World} (hb : Below W.heap.size W w1) : (∀ b o, b < W.heap.size → w1.cell? ⟨b, o, none⟩ = W.cell? ⟨b, o, none⟩) ∧ (∀ b o, b < W.heap.size → w1.frozen? ⟨b, o, none⟩ = W.frozen? ⟨b, o, none⟩) :=
  ⟨fun b o h => hb.cell (p := ⟨b, o, none⟩) h, fun b o h => hb.frozen (p := ⟨b, o, none⟩) h⟩
theorem conv_one (w : World) (g cap : Nat) (d : Int) (h : w.cell? ⟨g, 0, none⟩ = some (.int .u8 d)) :
    (convert 34 9 (.slice (some ⟨g, 0, none⟩) 1 cap)).run Tryd.prog w = .ok (.string ⟨#[UInt8.ofNat d.toNat]⟩) w := by
  have := run_convert_bytes_arg w 34 5 Tryd.underlying34 Tryd.underlying5 g 0 1 cap [d] rfl (fun i hi => by
    obtain rfl : i = 0 := by omega
    simpa using h) 9 Tryd.underlying9
  simpa [strOfNums] using this
theorem ret_str {a b : ByteArray} (h : a = b) : Ending.returned (.string a) = .returned (.string b) := by rw [h]
theorem digit_small (x : Nat) (h : x < 10) : UInt8.ofNat (48 + x) = digit x := by unfold digit; rw [Nat.mod_eq_of_lt h]
theorem digit_sum (x : Nat) : 48 + UInt8.ofNat (x % 10) = digit x := by
  unfold digit
  apply UInt8.toNat_inj.1
  simp
theorem decF_small (f x : Nat) (h : x < 10) : decF f x = [digit x] := by cases f <;> simp [decF, h]
theorem push_list (l : List UInt8) (c : UInt8) : (⟨l.toArray⟩ : ByteArray) ++ ⟨#[c]⟩ = ⟨(l ++ [c]).toArray⟩ := by
  apply ByteArray.ext
  simp [ByteArray.data_append]

/-! num.Dec: the digits are laid from the end of a row of twenty cells -/
def byteV (c : UInt8) : Value := .int .u8 (c.toNat : Int)
def Zs : List Value := List.replicate 20 (.int .u8 0)
theorem cell_block {w : World} {B : Nat} {cs : Array Value} {t : TypeId} (h : w.heap[B]? = some (.cells cs t (0, 0))) (i : Nat) : w.cell? ⟨B, i, none⟩ = cs[i]? := by simp [World.cell?, h]
theorem free_block {w : World} {B : Nat} {cs : Array Value} {t : TypeId} (h : w.heap[B]? = some (.cells cs t (0, 0))) (i : Nat) : w.frozen? ⟨B, i, none⟩ = false := by simp [World.frozen?, h]
theorem set_drop (cs : List Value) (a : Nat) (v : Value) (h : a < cs.length) : (cs.set a v).drop a = v :: cs.drop (a + 1) := by
  apply List.ext_getElem?; intro i
  cases i with
  | zero => simp [h]
  | succ i =>
    rw [List.getElem?_drop, List.getElem?_set, if_neg (by omega), List.getElem?_cons_succ, List.getElem?_drop]
    congr 1; omega
theorem digitV (y : Nat) : Value.int .u8 (48 + (y : Int) % 10) = byteV (digit y) := by
  unfold byteV; rw [digit_nat]; congr 1
theorem conv_row {w : World} {B a : Nat} {cs : List Value} {l : List UInt8} (hb : w.heap[B]? = some (.cells cs.toArray 93 (0, 0))) (hd : cs.drop a = l.map byteV) :
    (convert 34 9 (.slice (some ⟨B, a, none⟩) l.length l.length)).run Tryd.prog w = .ok (.string ⟨l.toArray⟩) w := by
  refine run_convert_bytes_back w 34 9 5 ⟨B, a, none⟩ l.length l Tryd.underlying34 Tryd.underlying5 Tryd.underlying9 (fun j hj => ?_)
  have e : (⟨B, a, none⟩ : Addr).add j = ⟨B, a + j, none⟩ := by unfold Addr.add; split <;> simp_all
  rw [e, cell_block hb]
  have h1 : (cs.drop a)[j]? = (l.map byteV)[j]? := by rw [hd]
  rw [List.getElem?_drop] at h1
  rw [List.getElem?_toArray, h1]
  simp [hj, byteV]
theorem below_ten (x j : Nat) (hx : U64 x) (h : j = 0 ∨ x / 10 ^ j ≠ 0) : j < 20 := by
  rcases Nat.lt_or_ge j 20 with h1 | h1
  · exact h1
  · exfalso
    rcases h with h | h
    · omega
    · apply h
      apply Nat.div_eq_of_lt
      have h2 : 10 ^ 20 ≤ 10 ^ j := Nat.pow_le_pow_right (by omega) h1
      exact Nat.lt_of_lt_of_le (Nat.lt_of_lt_of_le hx pow20) h2

theorem arr20 : Tryd.prog.underlying 93 = some (.array (Tryd.prog.arrayLen 93) (Tryd.prog.elem 93)) := by kernel_rfl
theorem len20 : Tryd.prog.arrayLen 93 = 20 := by kernel_rfl
theorem elem20 (w : World) : (sizeOf (Tryd.prog.elem 93)).run Tryd.prog w = .ok 1 w := by kernel_rfl
theorem slice_row (B a j : Nat) (h : a + j = 20) (h1 : 1 ≤ a) (w : World) :
    (Instr.sliceAt 93 (.pointer (some ⟨B, 0, none⟩)) (some (.int .i64 ((a : Int) - 1))) none none).run Tryd.prog w = .ok (.slice (some ⟨B, a - 1, none⟩) (j + 1) (j + 1)) w := by
  rw [run_sliceAt_array_l w 93 ⟨B, 0, none⟩ arr20 .i64 ((a : Int) - 1) (by omega) (by rw [len20]; omega), elem20, len20]
  simp only [Result.andThen, slicedAt]
  rw [if_neg (by omega), show ((a : Int) - 1).toNat = a - 1 from by omega, show 20 - (a - 1) = j + 1 from by omega]
  simp [Addr.add]
  omega

set_option maxRecDepth 100000 in
theorem Dec_any (x : Nat) (w : World) (hx : U64 x) :
    Calls Tryd.prog 47 #[.int .u64 x] w fun e w' => e = .returned (.string (decS x)) ∧ Below w.heap.size w w' := by
  have hz : (w.alloc (.cells Zs.toArray 93)).heap[w.heap.size]? = some (.cells Zs.toArray 93 (0, 0)) := heap_alloc_new w _
  have hzb : Below w.heap.size w (w.alloc (.cells Zs.toArray 93)) := (Below.refl _ _).alloc (Nat.le_refl _) _
  have HZ := Lib.hid hz; have HZB := Lib.hid hzb; clear hz hzb
  go_enter Tryd.func47, Tryd.ntmps47
  go_wp2_with fail
  go_loopw [0, 4] (fun y at' wr => ∃ j a : Nat, ∃ cs : List Value, a + j = 20 ∧ (j = 0 ∨ x / 10 ^ j ≠ 0) ∧ y = .int .u64 (x / 10 ^ j : Nat) ∧ at' = .int .i64 a ∧ wr.heap[w.heap.size]? = some (.cells cs.toArray 93 (0, 0)) ∧ cs.length = 20 ∧ cs.drop a = (digsTo x j).map byteV ∧ Below w.heap.size w wr) (fun _ i _ => (intOf i).toNat)
  case atStart => exact ⟨0, 20, Zs, rfl, .inl rfl, by simp, rfl, HZ.out, rfl, rfl, HZB.out⟩
  case round =>
    obtain ⟨j, a, cs, haj, hj, rfl, rfl, hb, hcl, hcd, hbel⟩ := hrel
    have hj20 := below_ten x j hx hj
    have ha1 : 1 ≤ a := by omega
    have ha2 : a ≤ 20 := by omega
    have HA := Lib.hid haj
    have hc : wr.cell? ⟨w.heap.size, a - 1, none⟩ = some (cs[a - 1]'(by omega)) := by rw [cell_block hb]; simp [show a - 1 < cs.length by omega]
    have hf : wr.frozen? ⟨w.heap.size, a - 1, none⟩ = false := free_block hb _
    obtain ⟨u, hu⟩ : ∃ u, u = cs[a - 1]'(by omega) := ⟨_, rfl⟩
    rw [← hu] at hc; clear hu
    have HN : Hid ((wr.setCell ⟨w.heap.size, a - 1, none⟩ (byteV (digit (x / 10 ^ j)))).heap[w.heap.size]? = some (.cells (cs.set (a - 1) (byteV (digit (x / 10 ^ j)))).toArray 93 (0, 0))) := by
      have := heap_setCell_same wr w.heap.size (a - 1) cs.toArray 93 (byteV (digit (x / 10 ^ j))) hb
      rw [Hid, this]; simp
    have HL : Hid ((cs.set (a - 1) (byteV (digit (x / 10 ^ j)))).length = 20) := by simpa [Hid] using hcl
    have HDR : Hid ((cs.set (a - 1) (byteV (digit (x / 10 ^ j)))).drop (a - 1) = (digsTo x (j + 1)).map byteV) := by
      rw [Hid, set_drop _ _ _ (by omega), show a - 1 + 1 = a from by omega, hcd]; rfl
    have HB : Hid (Below w.heap.size w (wr.setCell ⟨w.heap.size, a - 1, none⟩ (byteV (digit (x / 10 ^ j))))) := hbel.setCell (Nat.le_refl _) _
    have HV := Lib.hid (digitV (x / 10 ^ j))
    have HQ : Hid (IntKind.u64.wrap (((x / 10 ^ j : Nat) : Int) / 10) = ((x / 10 ^ (j + 1) : Nat) : Int)) := by
      have h1 := wrap_div (x / 10 ^ j) 10 (Nat.lt_of_le_of_lt (Nat.div_le_self _ _) hx)
      rw [Nat.div_div_eq_div_mul, ← Nat.pow_succ] at h1
      exact h1
    have HJ := Lib.hid hj
    clear haj hj hb hcl hcd hbel
    by_cases hq : x / 10 ^ (j + 1) = 0
    · have HD : Hid (decL x = digsTo x (j + 1)) := decL_digs x j hq HJ.out (by omega)
      have HCV := Lib.hid (conv_row HN.out HDR.out)
      rw [digsTo_len] at HCV
      rw [hq] at HQ
      generalize x / 10 ^ j = y at *
      have hwq := HQ.out
      have hsl := slice_row w.heap.size a j HA.out ha1
      rw [← HV.out] at HCV HB
      have hcv := HCV.out
      clear hq HCV
      go_wp2
      go_ret
      exact ⟨ret_str (by rw [decS, HD.out]), HB.out⟩
    · have hb0 : (((x / 10 ^ (j + 1) : Nat) : Int) == 0) = false := beq_eq_false_iff_ne.2 (by omega)
      have HQ2 := Lib.hid hq; clear hq
      generalize hy2 : x / 10 ^ (j + 1) = y2 at *
      have HY2 := Lib.hid hy2; clear hy2
      generalize x / 10 ^ j = y at *
      have hwq := HQ.out
      rw [← HV.out] at HN HL HDR HB
      go_wp2
      go_roundw
      case rel => exact ⟨j + 1, a - 1, _, by have := HA.out; omega, .inr (by rw [HY2.out]; exact HQ2.out), by rw [HY2.out], by go_num, HN.out, HL.out, HDR.out, HB.out⟩
      case measure => simp [intOf]; omega

/-! OfDec -/
theorem ofDec_step (y c : Nat) (h : 48 ≤ c) : Value.int .u64 (10 * (y : Int) + ((c : Int) - 48)) = .int .u64 ((10 * y + (c - 48) : Nat) : Int) := by
  congr 1; omega
theorem head_get (s : ByteArray) (h : 0 < s.size) : s.data.toList.head? = some s[0] := by
  have := drop_cons s 0 h
  rw [List.drop_zero] at this
  rw [this]; rfl
theorem bad_short (s : ByteArray) (h : s.size < 1 ∨ 20 < s.size) : ofDecV s.data.toList = none := by
  have : ofDecBad s.data.toList = true := by
    unfold ofDecBad; rw [list_len]
    rcases h with h | h <;> simp [h]
  simp [ofDecV, this]
theorem bad_zero (s : ByteArray) (h : 1 < s.size) (hz : ((s[0].toNat : Int) == 48) = true) : ofDecV s.data.toList = none := by
  have h48 : s[0] = 48 := by
    apply UInt8.toNat_inj.1
    have : (s[0].toNat : Int) = 48 := by simpa using hz
    show s[0].toNat = 48
    omega
  have : ofDecBad s.data.toList = true := by
    unfold ofDecBad; rw [list_len, head_get s (by omega), h48]
    simp [h]
  simp [ofDecV, this]
theorem good_in (s : ByteArray) (h1 : 1 ≤ s.size) (h2 : s.size ≤ 20) (hz : s.size = 1 ∨ ∃ h : 1 < s.size, ((s[0].toNat : Int) == 48) = false) : ofDecV s.data.toList = ofDecF s.data.toList 0 := by
  have : ofDecBad s.data.toList = false := by
    unfold ofDecBad; rw [list_len, head_get s (by omega)]
    have a1 : ¬ s.size < 1 := by omega
    have a2 : ¬ 20 < s.size := by omega
    rcases hz with hz | ⟨h, hz⟩
    · simp [hz]
    · have h48 : ¬ s[0] = 48 := by
        intro e
        rw [e] at hz
        exact absurd hz (by decide)
      simp [a1, a2, h48]
  simp [ofDecV, this]

set_option maxRecDepth 100000 in
theorem OfDec_short (s : ByteArray) (w : World) (h : s.size < 1 ∨ 20 < s.size) (hm : s.size ≤ 9223372036854775807) :
    Calls Tryd.prog 28 #[.string s] w fun e w' => e = .returned (.tuple #[.int .u64 0, .int .i64 101]) ∧ w = w' := by
  rcases h with h | h
  · have hd : decide ((s.size : Int) < 1) = true := by simp; omega
    go_enter Tryd.func28, Tryd.ntmps28
    go_wp2
    go_ret2
    exact ⟨rfl, rfl⟩
  · have hd : decide ((s.size : Int) < 1) = false := by simp; omega
    have hd2 : decide (20 < (s.size : Int)) = true := by simp; omega
    go_enter Tryd.func28, Tryd.ntmps28
    go_wp2
    go_ret2
    exact ⟨rfl, rfl⟩
set_option maxRecDepth 100000 in
theorem OfDec_zero (s : ByteArray) (w : World) (h1 : 1 < s.size) (h2 : s.size ≤ 20) (hz : ((s[0].toNat : Int) == 48) = true) :
    Calls Tryd.prog 28 #[.string s] w fun e w' => e = .returned (.tuple #[.int .u64 0, .int .i64 101]) ∧ w = w' := by
  have hd1 : decide ((s.size : Int) < 1) = false := by simp; omega
  have hd2 : decide (20 < (s.size : Int)) = false := by simp; omega
  have hd3 : decide (1 < (s.size : Int)) = true := by simp; omega
  go_enter Tryd.func28, Tryd.ntmps28
  go_wp2
  go_ret2
  exact ⟨rfl, rfl⟩
set_option maxRecDepth 100000 in
set_option maxHeartbeats 800000 in
theorem OfDec_in (s : ByteArray) (w : World) (h1 : 1 ≤ s.size) (h2 : s.size ≤ 20) (hz : s.size = 1 ∨ ((s[0].toNat : Int) == 48) = false)
    (HN : Hid (ofDecF s.data.toList 0 = none → ofDecX s.data.toList = 0 ∧ ofDecE s.data.toList = 101)) (HY : Hid (∀ y, ofDecF s.data.toList 0 = some y → ofDecX s.data.toList = y ∧ ofDecE s.data.toList = 0)) :
    Calls Tryd.prog 28 #[.string s] w fun e w' => e = .returned (.tuple #[.int .u64 (ofDecX s.data.toList), .int .i64 (ofDecE s.data.toList)]) ∧ w = w' := by
  have hd1 : decide ((s.size : Int) < 1) = false := by simp; omega
  have hd2 : decide (20 < (s.size : Int)) = false := by simp; omega
  have hz' : decide (1 < (s.size : Int)) = false ∨ (decide (1 < (s.size : Int)) = true ∧ ((s[0].toNat : Int) == 48) = false) := by
    rcases Nat.lt_or_ge 1 s.size with h | h
    · exact .inr ⟨by simp; omega, hz.resolve_left (by omega)⟩
    · exact .inl (by simp; omega)
  clear hz
  rcases hz' with hd3 | ⟨hd3, hd4⟩
  all_goals
    go_enter Tryd.func28, Tryd.ntmps28
    go_wp2
    go_loop [4, 5, 6, 27] (fun x _ _ i => ∃ k : Nat, ∃ y : Nat, k ≤ s.size ∧ i = .int .i64 k ∧ x = .int .u64 y ∧ Hid (ofDecF (s.data.toList.drop k) y = ofDecF s.data.toList 0)) (fun _ _ _ i => s.size - (intOf i).toNat)
    case atStart => exact ⟨0, 0, Nat.zero_le _, rfl, rfl, rfl⟩
    case round =>
      obtain ⟨k, y, hk, rfl, rfl, HI⟩ := hrel
      by_cases hlt : k < s.size
      · have HS : Hid (ofDecF s.data.toList 0 = if s[k].toNat < 48 ∨ 57 < s[k].toNat ∨ (18446744073709551615 - (s[k].toNat - 48)) / 10 < y then none else ofDecF (s.data.toList.drop (k + 1)) (10 * y + (s[k].toNat - 48))) := by
          have h := HI.out
          rw [drop_cons s k hlt, ofDecF] at h
          exact h.symm
        have hcn := s[k].toNat_lt
        go_wp2
        all_goals first
          | (go_ret2; have hn : ofDecF s.data.toList 0 = none := by rw [HS.out, if_pos (by omega)]
             exact ⟨by rw [(HN.out hn).1, (HN.out hn).2]; rfl, rfl⟩)
          | (have hr := HS.out
             rw [if_neg (by omega)] at hr
             go_round
             case rel => exact ⟨k + 1, _, by omega, by go_num, ofDec_step y s[k].toNat (by omega), hr.symm⟩
             case measure => simp [intOf]; omega)
      · have HT : Hid (ofDecF s.data.toList 0 = some y) := by
          have h := HI.out
          rw [List.drop_of_length_le (by rw [list_len]; omega)] at h
          exact h.symm
        have HF := Lib.hid (HY.out y HT.out)
        go_wp2
        go_ret2
        exact ⟨by rw [HF.out.1, HF.out.2]; rfl, rfl⟩
theorem OfDec_any (s : ByteArray) (w : World) (hm : s.size ≤ maxLen) :
    Calls Tryd.prog 28 #[.string s] w fun e w' => e = .returned (.tuple #[.int .u64 (ofDecX s.data.toList), .int .i64 (ofDecE s.data.toList)]) ∧ w = w' := by
  unfold maxLen at hm
  by_cases h : s.size < 1 ∨ 20 < s.size
  · rw [(ofDec_no (bad_short s h)).1, (ofDec_no (bad_short s h)).2]
    exact OfDec_short s w h (by omega)
  by_cases h1 : 1 < s.size
  · by_cases hz : ((s[0].toNat : Int) == 48) = true
    · rw [(ofDec_no (bad_zero s h1 hz)).1, (ofDec_no (bad_zero s h1 hz)).2]
      exact OfDec_zero s w h1 (by omega) hz
    · have hz : ((s[0].toNat : Int) == 48) = false := by simpa using hz
      have hg := good_in s (by omega) (by omega) (.inr ⟨h1, hz⟩)
      exact OfDec_in s w (by omega) (by omega) (.inr hz) (fun hn => ofDec_no (by rw [hg]; exact hn)) (fun y hy => ofDec_yes (by rw [hg]; exact hy))
  · have hg := good_in s (by omega) (by omega) (.inl (by omega))
    exact OfDec_in s w (by omega) (by omega) (.inl (by omega)) (fun hn => ofDec_no (by rw [hg]; exact hn)) (fun y hy => ofDec_yes (by rw [hg]; exact hy))

end Go.Proofs.YtjanpaallealgaaDoor.num
