/-
  Proved: what the Go functions of package num, and of orielref1, return for every argument; and that both return the same. Conditions: a text has at most maxLen bytes.
-/
import Derived.Test.YtifhnpkapgaboaaRows
import Derived.Test.YtifhnpkapgaboaaPk13
import Derived.WalkKit
import Derived.WalkLawsBesides
import Derived.WalkSpells
import Derived.Outline
import Derived.Lib.Hide
namespace Go.Proofs.Ytifhnpkapgaboaa.num
open Go.RowKit
set_option linter.unusedVariables false

theorem ret_pair {a b a' b' : Value} (h1 : a = a') (h2 : b = b') : Ending.returned (.tuple #[a, b]) = .returned (.tuple #[a', b']) := by rw [h1, h2]
theorem infoU8 : (Try.prog.info? 5).map (fun i => (i.zero, i.size, i.bytes)) = some (some (.int .u8 0), 1, 1) := by kernel_rfl

/-- string(b) of an owned row of bytes. -/
theorem conv_own {w : World} {base n cap g : Nat} {zs : List Int} (h : w.ownsRow base 5 1 (.slice (some ⟨g, 0, none⟩) n cap) n (zs.map (Value.int .u8))) :
    (convert 90 9 (.slice (some ⟨g, 0, none⟩) n cap)).run Try.prog w = .ok (.string (strOfNums zs)) w := by
  have hl : zs.length = n := by have := h.1; simpa using this
  refine run_convert_bytes_arg w 90 5 Try.underlying90 Try.underlying5 g 0 n cap zs hl (fun i hi => ?_) 9 Try.underlying9
  rw [Nat.zero_add, h.cellAt i (by omega)]
  simp [show i < zs.length by omega]


def U64 (x : Nat) : Prop := x < 18446744073709551616

theorem wrap_div (y d : Nat) (hy : U64 y) : IntKind.u64.wrap ((y : Int) / (d : Int)) = ((y / d : Nat) : Int) := by
  have h := Nat.div_le_self y d
  unfold U64 at hy
  rw [← Int.natCast_ediv, IntKind.wrap_u64]
  generalize y / d = q at *
  omega

theorem bad_cases (x : Nat) (n : Int) (hx : U64 x) (h : leGood x n = false) : n < 1 ∨ 8 < n ∨ (1 ≤ n ∧ n < 8 ∧ 256 ^ n.toNat ≤ x) := by
  have := mt (leGood_iff x n).2 (by simp [h])
  rcases Int.lt_or_le n 1 with h1 | h1
  · exact .inl h1
  rcases Int.lt_or_le 8 n with h2 | h2
  · exact .inr (.inl h2)
  rcases Int.lt_or_le n 8 with h3 | h3
  · exact .inr (.inr ⟨h1, h3, by omega⟩)
  · obtain rfl : n = 8 := by omega
    exact absurd ⟨by omega, by omega, Nat.lt_of_lt_of_le hx (by decide)⟩ this

set_option maxRecDepth 100000 in
theorem Le_no (x : Nat) (n : Int) (w : World) (hx : U64 x) (h : leGood x n = false) :
    Calls Try.prog 62 #[.int .u64 x, .int .i64 n] w fun e w' => e = .returned (.tuple #[.string ⟨#[]⟩, .int .i64 100]) ∧ Below w.heap.size w w' := by
  rcases bad_cases x n hx h with h1 | h1 | ⟨h1, h2, h3⟩
  · have hd : decide (n < 1) = true := by simpa using h1
    clear h hx
    go_enter Try.func62, Try.ntmps62
    go_wp2
    go_ret2
    exact ⟨rfl, Below.refl _ _⟩
  · have hd : decide (n < 1) = false := by simp; omega
    have hd2 : decide (8 < n) = true := by simpa using h1
    clear h hx
    go_enter Try.func62, Try.ntmps62
    go_wp2
    go_ret2
    exact ⟨rfl, Below.refl _ _⟩
  · obtain ⟨m, rfl⟩ := Int.eq_ofNat_of_zero_le (show 0 ≤ n by omega)
    have hd : decide ((m : Int) < 1) = false := by simp; omega
    have hd2 : decide (8 < (m : Int)) = false := by simp; omega
    have hd3 : decide (0 < (x : Int) / 2 ^ (8 * m)) = true := by simpa [over_iff] using h3
    clear h hx h3
    go_enter Try.func62, Try.ntmps62
    go_wp2
    go_ret2
    exact ⟨rfl, Below.refl _ _⟩

set_option maxRecDepth 100000 in
theorem Le_yes (x n : Nat) (w : World) (h1 : 1 ≤ n) (h8 : n ≤ 8) (hfit : Hid (x < 256 ^ n)) :
    Calls Try.prog 62 #[.int .u64 x, .int .i64 n] w fun e w' => e = .returned (.tuple #[.string (strOfNums (bytesTo x n)), .int .i64 0]) ∧ Below w.heap.size w w' := by
  obtain ⟨i0, hi, hz0, hz1, hz2⟩ := info_parts infoU8
  have hd1 : decide ((n : Int) < 1) = false := by simp; omega
  have hd2 : decide (8 < (n : Int)) = false := by simp; omega
  have hd3 : decide (0 < (x : Int) / 2 ^ (8 * n)) = false := by
    have := hfit.out
    simp only [decide_eq_false_iff_not, over_iff]; omega
  rcases Nat.lt_or_ge n 8 with h7 | h7
  all_goals
    go_enter Try.func62, Try.ntmps62
    go_wp2_with (at_make; refine wpList_make_full _ rfl _ _ 90 rfl w.heap.size 5 i0 (.int .u8 0) 1 Try.underlying90 hi hz0 hz1 .i64 .i64 n n n rfl rfl rfl rfl (by rw [hz2]; omega) (by unfold maxLen; omega) (Nat.le_refl _) ?_; intro w1 hown1 hgrow1)
    have hb1 : Below w.heap.size w w1 := (Below.refl _ _).grown hgrow1 (Nat.le_refl _) (by simp)
    have hown2 : w1.ownsRow w.heap.size 5 1 (.slice (some ⟨w.heap.size, 0, none⟩) n n) n (rowTo x n 0) := by
      rw [rowTo_zero]; simpa [toList_madeCells_one, Value.cells] using hown1
    clear hown1 hgrow1
    go_loopw [7, 29] (fun j i wr => ∃ k : Nat, k ≤ n ∧ i = .int .i64 k ∧ wr.ownsRow w.heap.size 5 1 (.slice (some ⟨w.heap.size, 0, none⟩) n n) n (rowTo x n k) ∧ Below w.heap.size w wr) (fun _ i _ => n - (intOf i).toNat)
    case atStart => exact ⟨0, Nat.zero_le _, rfl, hown2, hb1⟩
    case round =>
      obtain ⟨k, hk, rfl, hown, hbel⟩ := hrel
      by_cases hlt : k < n
      · have hc : wr.cell? ⟨w.heap.size, k, none⟩ = some (.int .u8 0) := by rw [hown.cellAt k (by omega), rowTo_get _ _ _ _ hlt]; simp
        have hf : wr.frozen? ⟨w.heap.size, k, none⟩ = false := hown.frozenAt k
        have R := hown.stored k (.int .u8 (byteAt x k))
        rw [rowTo_set x n k hlt] at R
        have R2 := hbel.grown R.2 hbel.size (by intro j h; simp at h; omega)
        have HR := Lib.hid R.1; have HR2 := Lib.hid R2; clear R R2 hown
        go_wp2
        go_roundw
        case rel => exact ⟨k + 1, by omega, by go_num, HR.out, HR2.out⟩
        case measure => simp [intOf]; omega
      · obtain rfl : k = n := by omega
        rw [rowTo_full] at hown
        have hcv := conv_own hown
        clear hown
        go_wp2
        go_ret2
        exact ⟨rfl, hbel⟩

theorem Le_any (x : Nat) (n : Int) (w : World) (hx : U64 x) :
    Calls Try.prog 62 #[.int .u64 x, .int .i64 n] w fun e w' => e = .returned (.tuple #[.string (leS x n), .int .i64 (leE x n)]) ∧ Below w.heap.size w w' := by
  by_cases h : leGood x n = true
  · obtain ⟨h1, h2, h3⟩ := (leGood_iff x n).1 h
    obtain ⟨m, rfl⟩ := Int.eq_ofNat_of_zero_le (show 0 ≤ n by omega)
    rw [(le_yes h).1, (le_yes h).2]
    exact Le_yes x m w (by omega) (by omega) h3
  · have h : leGood x n = false := by simpa using h
    rw [(le_no h).1, (le_no h).2]
    exact Le_no x n w hx h

/-! orielref1.Le -/
set_option maxRecDepth 100000 in
theorem rLe_out (x : Nat) (n : Int) (w : World) (h : n < 1 ∨ 8 < n) :
    Calls Try.prog 82 #[.int .u64 x, .int .i64 n] w fun e w' => e = .returned (.tuple #[.string ⟨#[]⟩, .int .i64 100]) ∧ Below w.heap.size w w' := by
  rcases h with h1 | h1
  · have hd : decide (n < 1) = true := by simpa using h1
    go_enter Try.func82, Try.ntmps82
    go_wp2
    go_ret2
    exact ⟨rfl, Below.refl _ _⟩
  · have hd : decide (n < 1) = false := by simp; omega
    have hd2 : decide (8 < n) = true := by simpa using h1
    go_enter Try.func82, Try.ntmps82
    go_wp2
    go_ret2
    exact ⟨rfl, Below.refl _ _⟩

set_option maxRecDepth 100000 in
theorem rLe_in (x n : Nat) (w : World) (hx : U64 x) (h1 : 1 ≤ n) (h8 : n ≤ 8) :
    Calls Try.prog 82 #[.int .u64 x, .int .i64 n] w fun e w' => e = .returned (.tuple #[.string (leS x n), .int .i64 (leE x n)]) ∧ Below w.heap.size w w' := by
  obtain ⟨i0, hi, hz0, hz1, hz2⟩ := info_parts infoU8
  have hd1 : decide ((n : Int) < 1) = false := by simp; omega
  have hd2 : decide (8 < (n : Int)) = false := by simp; omega
  go_enter Try.func82, Try.ntmps82
  go_wp2_with fail
  go_loopw [0, 6, 7] (fun y v i wr => ∃ k : Nat, k ≤ n ∧ i = .int .i64 k ∧ y = .int .u64 (x / 256 ^ k : Nat) ∧ wr.ownsRow w.heap.size 5 1 v k ((bytesTo x k).map (Value.int .u8)) ∧ Below w.heap.size w wr) (fun _ _ i _ => n - (intOf i).toNat)
  case atStart => exact ⟨0, Nat.zero_le _, rfl, by simp, World.ownsRow_nil _ _ _ _, Below.refl _ _⟩
  case round =>
    obtain ⟨k, hk, rfl, rfl, hown, hbel⟩ := hrel
    by_cases hlt : k < n
    · have hsz := hbel.size
      have HY1 : Hid (((x / 256 ^ k : Nat) : Int) % 256 = byteAt x k) := byteAt_step x k
      have HY2 : Hid (x / 256 ^ k / 256 = x / 256 ^ (k + 1)) := div_step x k
      have HY3 : Hid (IntKind.u64.wrap (((x / 256 ^ k : Nat) : Int) / 256) = ((x / 256 ^ k / 256 : Nat) : Int)) := wrap_div _ 256 (Nat.lt_of_le_of_lt (Nat.div_le_self _ _) hx)
      generalize x / 256 ^ k = y at *
      go_wp2_with (at_builtin; refine wpList_append_own _ rfl _ _ 90 rfl w.heap.size 5 i0 (.int .u8 0) 1 1 Try.underlying90 hi hz0 hz1 hz2 rfl (by decide) _ _ _ rfl (hown.alloc _) ⟨wr.heap.size, 0, none⟩ 1 1 [.int .u8 ((y : Int) % 256)] rfl rfl (cell_one_new _ _ _) (by simp [Value.oneCell']) (by unfold maxLen; omega) (by omega) (by simp; omega) ?_; intro v' w1 hown1 hgrow1 _)
      have hb1 : Below w.heap.size w w1 := (hbel.alloc hbel.size _).grown hgrow1 (by simp; omega) (fun j hj => (hown.lt j hj).1)
      have HO : Hid (w1.ownsRow w.heap.size 5 1 v' (k + 1) ((bytesTo x (k + 1)).map (Value.int .u8))) := by
        rw [bytesTo_succ, ← HY1.out, List.map_append]; exact hown1
      clear hown1 hgrow1 hown
      go_wp2
      go_roundw
      case rel => exact ⟨k + 1, by omega, by go_num, by rw [← HY2.out, HY3.out], HO.out, hb1⟩
      case measure => simp [intOf]; omega
    · obtain rfl : k = n := by omega
      by_cases hq : x / 256 ^ k = 0
      · have hg : leGood x k = true := (leGood_iff x k).2 ⟨by omega, by omega, by
          rcases Nat.div_eq_zero_iff.1 hq with h0 | h0
          · have := Nat.pow_pos (n := k) (show 0 < 256 by omega); omega
          · simpa using h0⟩
        have HE := Lib.hid (le_yes hg)
        rw [hq]
        have hown2 : ∃ g cap, u6 = .slice (some ⟨g, 0, none⟩) k cap := by
          rcases hown.2 with ⟨_, hz⟩ | ⟨g, cap, cur, hv, _⟩
          · omega
          · exact ⟨g, cap, hv⟩
        obtain ⟨g, cap, rfl⟩ := hown2
        have hcv := conv_own hown
        clear hown hq hg
        go_wp2
        go_ret2
        exact ⟨by rw [HE.out.1, HE.out.2, Int.toNat_natCast]; rfl, hbel⟩
      · have hg : leGood x k = false := by
          cases hc : leGood x k with
          | false => rfl
          | true =>
            have := ((leGood_iff x k).1 hc).2.2
            exact absurd (Nat.div_eq_of_lt (by simpa using this)) hq
        have HE := Lib.hid (le_no hg)
        have hbq : (((x / 256 ^ k : Nat) : Int) != 0) = true := by rw [bne_iff_ne]; omega
        clear hq hg
        generalize x / 256 ^ k = y at *
        go_wp2
        go_ret2
        exact ⟨by rw [HE.out.1, HE.out.2]; rfl, hbel⟩

theorem rLe_any (x : Nat) (n : Int) (w : World) (hx : U64 x) :
    Calls Try.prog 82 #[.int .u64 x, .int .i64 n] w fun e w' => e = .returned (.tuple #[.string (leS x n), .int .i64 (leE x n)]) ∧ Below w.heap.size w w' := by
  by_cases h : n < 1 ∨ 8 < n
  · have hg : leGood x n = false := by
      cases hc : leGood x n with
      | false => rfl
      | true => have := (leGood_iff x n).1 hc; omega
    rw [(le_no hg).1, (le_no hg).2]
    exact rLe_out x n w h
  · obtain ⟨m, rfl⟩ := Int.eq_ofNat_of_zero_le (show 0 ≤ n by omega)
    exact rLe_in x m w hx (by omega) (by omega)

/-! OfLe -/
def ofLeV (s : ByteArray) : Nat := if s.size < 1 ∨ 8 < s.size then 0 else ofLeL s.data.toList
def ofLeE (s : ByteArray) : Int := if s.size < 1 ∨ 8 < s.size then 100 else 0
theorem take_snoc (s : ByteArray) (k : Nat) (h : k < s.size) : s.data.toList.take (k + 1) = s.data.toList.take k ++ [s[k]] := by
  rw [List.take_succ_eq_append_getElem (by simpa using h)]; rfl
theorem drop_cons (s : ByteArray) (k : Nat) (h : k < s.size) : s.data.toList.drop k = s[k] :: s.data.toList.drop (k + 1) := by
  rw [List.drop_eq_getElem_cons (by simpa using h)]; rfl
theorem list_len (s : ByteArray) : s.data.toList.length = s.size := by simp

set_option maxRecDepth 100000 in
theorem OfLe_any (s : ByteArray) (w : World) (hs : s.size ≤ maxLen) :
    Calls Try.prog 57 #[.string s] w fun e w' => e = .returned (.tuple #[.int .u64 (ofLeV s), .int .i64 (ofLeE s)]) ∧ w = w' := by
  unfold maxLen at hs
  by_cases h0 : s.size < 1
  · have HE : Hid (ofLeV s = 0 ∧ ofLeE s = 100) := by simp [Hid, ofLeV, ofLeE, h0]
    have hd : decide ((s.size : Int) < 1) = true := by simp; omega
    go_enter Try.func57, Try.ntmps57
    go_wp2
    go_ret2
    exact ⟨by rw [HE.out.1, HE.out.2]; rfl, rfl⟩
  by_cases h9 : 8 < s.size
  · have HE : Hid (ofLeV s = 0 ∧ ofLeE s = 100) := by simp [Hid, ofLeV, ofLeE, h9]
    have hd : decide ((s.size : Int) < 1) = false := by simp; omega
    have hd2 : decide (8 < (s.size : Int)) = true := by simp; omega
    go_enter Try.func57, Try.ntmps57
    go_wp2
    go_ret2
    exact ⟨by rw [HE.out.1, HE.out.2]; rfl, rfl⟩
  have HE : Hid (ofLeV s = ofLeL s.data.toList ∧ ofLeE s = 0) := by simp [Hid, ofLeV, ofLeE, h0, h9]
  have hd1 : decide ((s.size : Int) < 1) = false := by simp; omega
  have hd2 : decide (8 < (s.size : Int)) = false := by simp; omega
  go_enter Try.func57, Try.ntmps57
  go_wp2
  go_loop [4, 5, 16] (fun x j i => ∃ k : Nat, k ≤ s.size ∧ i = .int .i64 k ∧ x = .int .u64 (ofLeL (s.data.toList.take k) : Nat)) (fun _ _ i => s.size - (intOf i).toNat)
  case atStart => exact ⟨0, Nat.zero_le _, rfl, by simp [ofLeL]⟩
  case round =>
    obtain ⟨k, hk, rfl, rfl⟩ := hrel
    by_cases hlt : k < s.size
    · have hl : (s.data.toList.take k).length = k := by rw [List.length_take, list_len]; omega
      have HS : Hid (bits BinOp.or IntKind.u64 (ofLeL (s.data.toList.take k) : Nat) (IntKind.u64.wrap (IntKind.u64.wrap (s[k].toNat : Int) * 2 ^ (8 * k))) = ((ofLeL (s.data.toList.take (k + 1)) : Nat) : Int)) := by
        have := or_step (s.data.toList.take k) s[k] (by omega)
        rw [hl] at this
        rw [take_snoc s k hlt]; exact this
      clear hl
      generalize ofLeL (s.data.toList.take k) = y at *
      go_wp2
      go_round
      case rel => exact ⟨k + 1, by omega, by go_num, by rw [HS.out]⟩
      case measure => simp [intOf]; omega
    · have HT : Hid (s.data.toList.take k = s.data.toList) := List.take_of_length_le (by rw [list_len]; omega)
      rw [HT.out]
      generalize ofLeL s.data.toList = y at *
      go_wp2
      go_ret2
      exact ⟨by rw [HE.out.1, HE.out.2]; rfl, rfl⟩

end Go.Proofs.Ytifhnpkapgaboaa.num
