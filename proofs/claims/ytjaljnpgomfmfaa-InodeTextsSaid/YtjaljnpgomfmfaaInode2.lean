/-
  Proved: how inode's layer lays numbers, what the statement's num gives. Conditions: as each theorem says.
-/
import Derived.Test.YtjaljnpgomfmfaaInode
import Derived.Deep.RegionWith
import Derived.Deep.RegionHeld3
namespace Go.Proofs.Ytjaljnpgomfmfaa.inode
open Go.RowKit
open heap
open num (Num_any list_len leS leE leGood U64)
set_option linter.unusedVariables false

/-- A number's bytes, the lowest first. -/
def le (x n : Nat) : List UInt8 := (num.bytesTo x n).map fun v => UInt8.ofNat v.toNat
theorem le_len (x n : Nat) : (le x n).length = n := by simp [le, num.bytesTo_len]
theorem leS_le (x n : Nat) (h1 : 1 ≤ n) (h8 : n ≤ 8) (hx : x < 256 ^ n) : leS x n = ⟨(le x n).toArray⟩ := by
  have hg : leGood x n = true := (num.leGood_iff x n).2 ⟨by omega, by omega, by simpa using hx⟩
  rw [(num.le_yes hg).1]; rfl
theorem join (a b : List UInt8) : (⟨a.toArray⟩ : ByteArray) ++ ⟨b.toArray⟩ = ⟨(a ++ b).toArray⟩ := by
  apply ByteArray.ext
  simp [ByteArray.data_append]
theorem str_size (l : List UInt8) : (⟨l.toArray⟩ : ByteArray).size = l.length := by show l.toArray.size = _; simp
def LayAt (w : World) (p : Nat) (l : List UInt8) : Prop := w.heap[p]? = some (.cells #[.string ⟨l.toArray⟩] 93 (0, 0))
abbrev P (p : Nat) : Value := .pointer (some ⟨p, 0, none⟩)
def PutPost (p : Nat) (l : List UInt8) (w : World) (e : Ending) (w' : World) : Prop := e = .returned (P p) ∧ LayAt w' p l ∧ Turned [p] w w'
theorem wrap_nat (x : Nat) (h : x < 9223372036854775808) : IntKind.u64.wrap (x : Int) = (x : Int) := by rw [IntKind.wrap_u64]; omega
set_option maxRecDepth 100000 in
theorem put_nat (w : World) (p : Nat) (l : List UInt8) (x n : Nat) (h : LayAt w p l) (hl : l.length ≤ 1000) (h1 : 1 ≤ n) (h8 : n ≤ 8) (hx : x < 256 ^ n) (hx2 : x < 65537) :
    Calls Try.prog 78 #[P p, .int .i64 x, .int .i64 n] w (PutPost p (l ++ le x n) w) := by
  have HL : Hid (∀ w : World, Calls Try.prog 33 #[.int .u64 (x : Int), .int .i64 (n : Int)] w fun e w' => e = .returned (.tuple #[.string ⟨(le x n).toArray⟩, .int .i64 (leE x n)]) ∧ Below w.heap.size w w') := fun w => by
    have := num.Le_any x n w (by unfold U64; omega)
    rw [leS_le x n h1 h8 hx] at this
    exact this
  have HJ := Lib.hid (join l (le x n))
  have hs1 : (⟨l.toArray⟩ : ByteArray).size ≤ 1000 := by rw [str_size]; exact hl
  have hs2 : (⟨(le x n).toArray⟩ : ByteArray).size ≤ 8 := by rw [str_size, le_len]; exact h8
  have HLA := Lib.hid h
  clear h hx
  generalize leE x n = er at *
  generalize hT1 : (⟨l.toArray⟩ : ByteArray) = T1 at *
  have HT1 := Lib.hid hT1; clear hT1
  generalize (⟨(le x n).toArray⟩ : ByteArray) = T2 at *
  go_enter Try.func78, Try.ntmps78
  go_wp2_with fail
  (with_reducible refine (HL.out _).mono ?_); rintro e w1 ⟨rfl, hb1⟩
  have hp1 : w1.heap[p]? = some (.cells #[.string T1] 93 (0, 0)) := by rw [← HT1.out]; exact blk_below HLA.out hb1
  have hc : w1.cell? ⟨p, 0, none⟩ = some (.string T1) := by rw [blk_cell hp1]; rfl
  have hf : w1.frozen? ⟨p, 0, none⟩ = false := blk_free hp1 0
  have HN := Lib.hid (blk_set hp1 0 (.string (T1 ++ T2)))
  have HB1 := Lib.hid hb1
  clear hb1 hp1
  go_wp2
  go_ret
  refine ⟨rfl, ?_, (Turned.of_below HB1.out).trans ((Turned.refl _ _).setCell (by simp) _)⟩
  unfold LayAt
  rw [← HJ.out]; exact HN.out
theorem put_any (w : World) (p : Nat) (l : List UInt8) (x n : Int) (h : LayAt w p l) (hl : l.length ≤ 1000) (h1 : 1 ≤ n) (h8 : n ≤ 8) (hx0 : 0 ≤ x) (hx : x.toNat < 256 ^ n.toNat) (hx2 : x < 65537) :
    Calls Try.prog 78 #[P p, .int .i64 x, .int .i64 n] w (PutPost p (l ++ le x.toNat n.toNat) w) := by
  obtain ⟨a, rfl⟩ := Int.eq_ofNat_of_zero_le hx0
  obtain ⟨b, rfl⟩ := Int.eq_ofNat_of_zero_le (show 0 ≤ n by omega)
  exact put_nat w p l a b h hl (by omega) (by omega) hx (by omega)
theorem num_any (w : World) (x n : Int) (h1 : 1 ≤ n) (h8 : n ≤ 8) (hx0 : 0 ≤ x) (hx : x.toNat < 256 ^ n.toNat) (hx2 : x < 65537) :
    Calls Try.prog 82 #[.int .i64 x, .int .i64 n] w fun e w' => e = .returned (.string ⟨(le x.toNat n.toNat).toArray⟩) ∧ Below w.heap.size w w' := by
  obtain ⟨a, rfl⟩ := Int.eq_ofNat_of_zero_le hx0
  obtain ⟨b, rfl⟩ := Int.eq_ofNat_of_zero_le (show 0 ≤ n by omega)
  have HL : Hid (∀ w : World, Calls Try.prog 34 #[.int .u64 (a : Int), .int .i64 (b : Int)] w fun e w' => e = .returned (.tuple #[.string ⟨(le a b).toArray⟩, .int .i64 (leE a b)]) ∧ Below w.heap.size w w') := fun w => by
    have := num.rLe_any a b w (by unfold U64; omega)
    rw [leS_le a b (by omega) (by omega) hx] at this
    exact this
  clear hx
  rw [Int.toNat_natCast, Int.toNat_natCast]
  generalize leE a b = er at *
  generalize (⟨(le a b).toArray⟩ : ByteArray) = T2 at *
  go_enter Try.func82, Try.ntmps82
  go_wp2_with fail
  (with_reducible refine (HL.out _).mono ?_); rintro e w1 ⟨rfl, hb1⟩
  go_wp2
  go_ret
  exact ⟨rfl, hb1⟩
end Go.Proofs.Ytjaljnpgomfmfaa.inode
