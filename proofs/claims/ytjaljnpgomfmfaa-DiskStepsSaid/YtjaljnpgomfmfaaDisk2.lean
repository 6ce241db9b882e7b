/-
  Proved: the statement's first look at package disk (oriellaw6.awake) returns true; plain facts on blocks of bytes. Conditions: none.
-/
import Derived.Test.YtjaljnpgomfmfaaDisk
namespace Go.Proofs.Ytjaljnpgomfmfaa.disk
open Go.RowKit
open heap
open row (byteV)
open num (Num_any)
set_option linter.unusedVariables false

/-- Blocks one behind the other. -/
def cat (f : Nat → List UInt8) : Nat → List UInt8
  | 0 => []
  | n + 1 => cat f n ++ f n
theorem cat_len (f : Nat → List UInt8) (hf : ∀ b, (f b).length = 256) (n : Nat) : (cat f n).length = 256 * n := by
  induction n with
  | zero => rfl
  | succ n ih => rw [cat, List.length_append, ih, hf]; omega
theorem cat_congr {f g : Nat → List UInt8} {n : Nat} (h : ∀ b, b < n → f b = g b) : cat f n = cat g n := by
  induction n with
  | zero => rfl
  | succ n ih => rw [cat, cat, ih (fun b hb => h b (by omega)), h n (by omega)]
theorem blockOf_cat (f : Nat → List UInt8) (hf : ∀ b, (f b).length = 256) (n b : Nat) (hb : b < n) : blockOf (cat f n) b = f b := by
  induction n with
  | zero => omega
  | succ n ih =>
    have hl := cat_len f hf n
    unfold blockOf at *
    rw [cat]
    rcases Nat.lt_or_ge b n with h | h
    · rw [List.drop_append_of_le_length (by omega), List.take_append_of_le_length (by rw [List.length_drop]; omega)]
      exact ih h
    · obtain rfl : b = n := by omega
      rw [List.drop_append, List.drop_of_length_le (by omega), hl, Nat.sub_self, List.drop_zero, List.nil_append, List.take_of_length_le (by rw [hf]; omega)]
def upd (f : Nat → List UInt8) (n : Nat) (s : List UInt8) : Nat → List UInt8 := fun b => if b = n then s else f b
theorem putBlock_cat (f : Nat → List UInt8) (hf : ∀ b, (f b).length = 256) (s : List UInt8) (hs : s.length = 256) (n b : Nat) (hb : b < n) : putBlock (cat f n) b s = cat (upd f b s) n := by
  induction n with
  | zero => omega
  | succ n ih =>
    have hl := cat_len f hf n
    rw [cat, cat]
    rcases Nat.lt_or_ge b n with h | h
    · have e : upd f b s n = f n := by simp [upd]; omega
      rw [← ih h, e]
      unfold putBlock
      rw [List.take_append_of_le_length (by omega), List.drop_append_of_le_length (by omega), List.append_assoc, List.append_assoc, List.append_assoc]
    · obtain rfl : b = n := by omega
      have e : upd f b s b = s := by simp [upd]
      rw [e, cat_congr (g := upd f b s) (n := b) (fun c hc => by simp [upd]; omega)] at *
      have hl2 : (cat (upd f b s) b).length = 256 * b := hl
      unfold putBlock
      rw [List.take_append_of_le_length (by omega), List.take_of_length_le (by omega), List.drop_of_length_le (by simp [hl2, hf]), List.append_nil]
theorem upd_len {f : Nat → List UInt8} (hf : ∀ b, (f b).length = 256) (n : Nat) {s : List UInt8} (hs : s.length = 256) : ∀ b, (upd f n s b).length = 256 := by
  intro b; unfold upd; split
  · exact hs
  · exact hf b
theorem rep_append (m n : Nat) (c : UInt8) : rep m c ++ rep n c = rep (m + n) c := by simp [rep]
theorem zeros_cat (n : Nat) : zeros (256 * n) = cat (fun _ => one 0) n := by
  induction n with
  | zero => rfl
  | succ n ih =>
    rw [cat, ← ih, Nat.mul_succ]
    exact (rep_append (256 * n) 256 0).symm
theorem str_size (l : List UInt8) : (⟨l.toArray⟩ : ByteArray).size = l.length := by show l.toArray.size = _; simp
theorem one_size (c : UInt8) : (⟨(one c).toArray⟩ : ByteArray).size = 256 := by rw [str_size, one_len]

section
variable {w : World} {p i : Nat} {img : List UInt8} {off cut : Bool} {left writes : Int}
theorem New_int (n : Int) (w : World) (h1 : 1 ≤ n) (h2 : n ≤ 65536) : Calls Try.prog 51 #[.int .i64 n] w (NewPost n.toNat w) := by
  obtain ⟨m, rfl⟩ := Int.eq_ofNat_of_zero_le (show 0 ≤ n by omega)
  exact New_ok m w (by omega) (by omega)
theorem block_int (c : Int) (w : World) (h1 : 0 ≤ c) (h2 : c ≤ 255) : Calls Try.prog 54 #[.int .u8 c] w fun e w' => e = .returned (.string ⟨(one (UInt8.ofNat c.toNat)).toArray⟩) ∧ Below w.heap.size w w' := by
  obtain ⟨m, rfl⟩ := Int.eq_ofNat_of_zero_le h1
  have := block_any (UInt8.ofNat m) w
  rw [UInt8.toNat_ofNat_of_lt' (show m < 256 by omega)] at this
  exact this
theorem Write_int (h : DiskAt w p i img false cut left writes) (n : Int) (s : ByteArray) (hl : img.length ≤ 16777216) (h0 : 0 ≤ n) (hn : 256 * (n + 1) ≤ img.length) (hs : s.size = 256)
    (hl1 : -9223372036854775807 ≤ left) (hl2 : left ≤ 9223372036854775807) (hw1 : 0 ≤ writes) (hw2 : writes < 9223372036854775807) :
    Calls Try.prog 53 #[P p, .int .i64 n, .string s] w fun e w' => e = .returned (.int .i64 0) ∧ DiskAt w' p i (putBlock img n.toNat s.data.toList) (offBy cut left) cut (left - 1) (writes + 1) ∧ Turned [p, i] w w' := by
  obtain ⟨m, rfl⟩ := Int.eq_ofNat_of_zero_le h0
  exact Write_ok h m s hl (by omega) hs hl1 hl2 hw1 hw2
theorem Read_int (h : DiskAt w p i img false cut left writes) (n : Int) (hl : img.length ≤ 16777216) (h0 : 0 ≤ n) (hn : 256 * (n + 1) ≤ img.length) :
    Calls Try.prog 56 #[P p, .int .i64 n] w fun e w' => e = .returned (.tuple #[.string ⟨(blockOf img n.toNat).toArray⟩, .int .i64 0]) ∧ w = w' := by
  obtain ⟨m, rfl⟩ := Int.eq_ofNat_of_zero_le h0
  exact Read_in h m hl (by omega)
end
set_option maxRecDepth 100000 in
theorem awake (w : World) : Calls Try.prog 50 #[] w fun e w' => e = .returned (.bool true) ∧ Below w.heap.size w w' := by
  have hz : ∀ b : Nat, ((fun _ => one 0) b : List UInt8).length = 256 := fun _ => one_len 0
  have e1 : putBlock (zeros (256 * 3)) 0 (one 97) = cat (upd (fun _ => one 0) 0 (one 97)) 3 := by rw [zeros_cat, putBlock_cat _ hz _ (one_len _) 3 0 (by omega)]
  have e2 : blockOf (putBlock (zeros (256 * 3)) 0 (one 97)) 0 = one 97 := by
    rw [e1, blockOf_cat _ (upd_len hz 0 (one_len _)) 3 0 (by omega)]; rfl
  have e3 : (putBlock (zeros (256 * 3)) 0 (one 97)).length = 768 := by rw [e1, cat_len _ (upd_len hz 0 (one_len _))]
  have e4 : (zeros (256 * 3)).length = 768 := by rw [zeros_cat, cat_len _ hz]
  have E2 := Lib.hid e2; have E3 := Lib.hid e3; have E4 := Lib.hid e4
  have HB97 : Hid (∀ w : World, Calls Try.prog 54 #[.int .u8 97] w fun e w' => e = .returned (.string ⟨(one 97).toArray⟩) ∧ Below w.heap.size w w') := fun w => block_int 97 w (by omega) (by omega)
  have HB98 : Hid (∀ w : World, Calls Try.prog 54 #[.int .u8 98] w fun e w' => e = .returned (.string ⟨(one 98).toArray⟩) ∧ Below w.heap.size w w') := fun w => block_int 98 w (by omega) (by omega)
  have HN : Hid (∀ w : World, Calls Try.prog 51 #[.int .i64 3] w (NewPost 3 w)) := fun w => New_int 3 w (by omega) (by omega)
  clear hz e1 e2 e3 e4
  have HZ := Lib.hid (one_size 97)
  generalize one 97 = A at *
  generalize one 98 = B at *
  go_enter Try.func50, Try.ntmps50
  go_wp2_with fail
  (with_reducible refine (HN.out _).mono ?_); rintro e w1 ⟨rfl, hd1, hb1⟩
  go_wp2_with fail
  (with_reducible refine (Cut_ok hd1 1 (by omega)).mono ?_); rintro e w2 ⟨rfl, hd2, ht2⟩
  have HD2 := Lib.hid hd2; clear hd1 hd2
  go_wp2_with fail
  (with_reducible refine (HB97.out _).mono ?_); rintro e w3 ⟨rfl, hb3⟩
  have HD3 := Lib.hid (HD2.out.below hb3)
  go_wp2_with fail
  (with_reducible refine (Write_int HD3.out 0 _ (by rw [E4.out]; omega) (by omega) (by rw [E4.out]; omega) HZ.out (by omega) (by omega) (by omega) (by omega)).mono ?_); rintro e w4 ⟨rfl, hd4, ht4⟩
  have hd4' : DiskAt w4 (w.heap.size + 1) w.heap.size (putBlock (zeros (256 * 3)) 0 A) true true 0 1 := hd4
  have HD4 := Lib.hid hd4'; clear hd4 hd4'
  go_wp2_with fail
  (with_reducible refine (HB98.out _).mono ?_); rintro e w5 ⟨rfl, hb5⟩
  have HD5 := Lib.hid (HD4.out.below hb5)
  go_wp2_with fail
  (with_reducible refine (Write_off HD5.out 1 _).mono ?_); rintro e w' ⟨rfl, rfl⟩
  go_wp2_with fail
  (with_reducible refine (On_any HD5.out).mono ?_); rintro e w6 ⟨rfl, hd6, ht6⟩
  have HD6 := Lib.hid hd6; clear hd6
  go_wp2_with fail
  (with_reducible refine (Read_int HD6.out 0 (by rw [E3.out]; omega) (by omega) (by rw [E3.out]; omega)).mono ?_); rintro e w' ⟨rfl, rfl⟩
  rw [Int.toNat_zero, E2.out]
  go_wp2_with (go_at_call 39; refine (Num_any _ _).mono ?_; rintro e w' ⟨rfl, rfl⟩)
  (with_reducible refine (HB97.out _).mono ?_); rintro e w7 ⟨rfl, hb7⟩
  have HD7 := Lib.hid (HD6.out.below hb7)
  go_wp2_with (go_at_call 39; refine (Num_any _ _).mono ?_; rintro e w' ⟨rfl, rfl⟩)
  (with_reducible refine (Writes_any HD7.out).mono ?_); rintro e w' ⟨rfl, rfl⟩
  go_wp2
  go_ret
  have hp : ∀ k ∈ [w.heap.size + 1, w.heap.size], w.heap.size ≤ k := by intro k hk; simp at hk; omega
  have t2 := hb1.trans ((ht2.mono (S' := [w.heap.size + 1, w.heap.size]) (by simp)).below hb1.size hp)
  have t3 := t2.trans (hb3.mono t2.size)
  have t4 := t3.trans (ht4.below t3.size hp)
  have t5 := t4.trans (hb5.mono t4.size)
  have t6 := t5.trans ((ht6.mono (S' := [w.heap.size + 1, w.heap.size]) (by simp)).below t5.size hp)
  exact ⟨rfl, t6.trans (hb7.mono t6.size)⟩
end Go.Proofs.Ytjaljnpgomfmfaa.disk
