/-
  Proved: what the methods of disk.Disk return, and what they leave in memory, for every device that New made. Conditions: as each theorem says.
-/
import Derived.Test.YtjaljnpgomfmfaaHeap
import Derived.Test.YtjaljnpgomfmfaaNumLaws
import Derived.Test.YtjaljnpgomfmfaaBytes
import Derived.Lib.BufferWrite
namespace Go.Proofs.Ytjaljnpgomfmfaa.disk
open Go.RowKit
open heap
open row (byteV)
set_option linter.unusedVariables false

/-- A device in memory: its struct in block p, its bytes in block i. -/
def DiskAt (w : World) (p i : Nat) (img : List UInt8) (off cut : Bool) (left writes : Int) : Prop :=
  w.heap[p]? = some (.cells #[.slice (some ⟨i, 0, none⟩) img.length img.length, .bool off, .bool cut, .int .i64 left, .int .i64 writes] 88 (0, 0)) ∧
  w.heap[i]? = some (.cells (img.map byteV).toArray 5 (0, 0)) ∧ p ≠ i
variable {w : World} {p i : Nat} {img : List UInt8} {off cut : Bool} {left writes : Int}
theorem DiskAt.turned {w' : World} (h : DiskAt w p i img off cut left writes) {S : List Nat} (ht : Turned S w w') (hp : p ∉ S) (hi : i ∉ S) : DiskAt w' p i img off cut left writes :=
  ⟨ht.kept h.1 hp, ht.kept h.2.1 hi, h.2.2⟩
theorem DiskAt.below {w' : World} (h : DiskAt w p i img off cut left writes) (hb : Below w.heap.size w w') : DiskAt w' p i img off cut left writes :=
  ⟨blk_below h.1 hb, blk_below h.2.1 hb, h.2.2⟩
theorem DiskAt.c0 (h : DiskAt w p i img off cut left writes) : w.cell? ⟨p, 0, none⟩ = some (.slice (some ⟨i, 0, none⟩) img.length img.length) := by rw [blk_cell h.1]; rfl
theorem DiskAt.c1 (h : DiskAt w p i img off cut left writes) : w.cell? ⟨p, 1, none⟩ = some (.bool off) := by rw [blk_cell h.1]; rfl
theorem DiskAt.c2 (h : DiskAt w p i img off cut left writes) : w.cell? ⟨p, 2, none⟩ = some (.bool cut) := by rw [blk_cell h.1]; rfl
theorem DiskAt.c3 (h : DiskAt w p i img off cut left writes) : w.cell? ⟨p, 3, none⟩ = some (.int .i64 left) := by rw [blk_cell h.1]; rfl
theorem DiskAt.c4 (h : DiskAt w p i img off cut left writes) : w.cell? ⟨p, 4, none⟩ = some (.int .i64 writes) := by rw [blk_cell h.1]; rfl
theorem DiskAt.free (h : DiskAt w p i img off cut left writes) (j : Nat) : w.frozen? ⟨p, j, none⟩ = false := blk_free h.1 j

abbrev P (p : Nat) : Value := .pointer (some ⟨p, 0, none⟩)
def offE (off : Bool) : Int := if off then 603 else 0
theorem may_any (h : DiskAt w p i img off cut left writes) :
    Calls Try.prog 74 #[P p] w fun e w' => e = .returned (.int .i64 (offE off)) ∧ w = w' := by
  have h1 := h.c1
  have HD := Lib.hid h; clear h
  cases off <;>
  · go_enter Try.func74, Try.ntmps74
    go_wp2
    go_ret
    exact ⟨rfl, rfl⟩
theorem Blocks_any (h : DiskAt w p i img off cut left writes) (hn : img.length ≤ 16777216) :
    Calls Try.prog 59 #[P p] w fun e w' => e = .returned (.int .i64 (img.length / 256 : Nat)) ∧ w = w' := by
  have h1 := h.c0
  have HD := Lib.hid h; clear h
  go_enter Try.func59, Try.ntmps59
  go_wp2
  go_ret
  exact ⟨by simp, rfl⟩
theorem Alive_any (h : DiskAt w p i img off cut left writes) :
    Calls Try.prog 58 #[P p] w fun e w' => e = .returned (.bool (!off)) ∧ w = w' := by
  have HM := Lib.hid (may_any h)
  have HD := Lib.hid h; clear h
  cases off <;>
  · go_enter Try.func58, Try.ntmps58
    go_wp2_with fail
    (with_reducible refine HM.out.mono ?_); rintro e w' ⟨rfl, rfl⟩
    simp only [offE, if_true, if_false, Bool.false_eq_true]
    go_wp2
    go_ret
    exact ⟨rfl, rfl⟩
theorem Writes_any (h : DiskAt w p i img off cut left writes) :
    Calls Try.prog 57 #[P p] w fun e w' => e = .returned (.int .i64 writes) ∧ w = w' := by
  have h1 := h.c4
  have HD := Lib.hid h; clear h
  go_enter Try.func57, Try.ntmps57
  go_wp2
  go_ret
  exact ⟨rfl, rfl⟩
theorem img_conv (h : DiskAt w p i img off cut left writes) (a n cap : Nat) (ha : a + n ≤ img.length) :
    (convert 83 9 (.slice (some ⟨i, a, none⟩) n cap)).run Try.prog w = .ok (.string ⟨((img.drop a).take n).toArray⟩) w := by
  have hl : ((img.drop a).take n).length = n := by rw [List.length_take, List.length_drop]; omega
  have := run_convert_bytes_back w 83 9 5 ⟨i, a, none⟩ cap ((img.drop a).take n) Try.underlying83 Try.underlying5 Try.underlying9 (fun j hj => by
    have e : (⟨i, a, none⟩ : Addr).add j = ⟨i, a + j, none⟩ := by unfold Addr.add; split <;> simp_all
    rw [hl] at hj
    have h2 : a + j < img.length := by omega
    rw [e, blk_cell h.2.1]
    simp [byteV, h2])
  rw [hl] at this
  exact this
theorem Image_any (h : DiskAt w p i img off cut left writes) :
    Calls Try.prog 60 #[P p] w fun e w' => e = .returned (.string ⟨img.toArray⟩) ∧ w = w' := by
  have h1 := h.c0
  have hcv := img_conv h 0 img.length img.length (by omega)
  rw [List.drop_zero, List.take_length] at hcv
  have HD := Lib.hid h; clear h
  go_enter Try.func60, Try.ntmps60
  go_wp2
  go_ret
  exact ⟨rfl, rfl⟩
theorem On_any (h : DiskAt w p i img off cut left writes) :
    Calls Try.prog 55 #[P p] w fun e w' => e = .returned (.int .i64 0) ∧ DiskAt w' p i img false false left writes ∧ Turned [p] w w' := by
  have h1 := h.c1
  have h2 := h.c2
  have f1 := h.free 1
  have f2 := h.free 2
  have HN : Hid (DiskAt ((w.setCell ⟨p, 1, none⟩ (.bool false)).setCell ⟨p, 2, none⟩ (.bool false)) p i img false false left writes) := by
    refine ⟨blk_set (blk_set h.1 1 (.bool false)) 2 (.bool false), ?_, h.2.2⟩
    rw [blk_other (fun e => h.2.2 e.symm), blk_other (fun e => h.2.2 e.symm)]; exact h.2.1
  have HT : Hid (Turned [p] w ((w.setCell ⟨p, 1, none⟩ (.bool false)).setCell ⟨p, 2, none⟩ (.bool false))) := ((Turned.refl [p] w).setCell (by simp) _).setCell (by simp) _
  clear h
  go_enter Try.func55, Try.ntmps55
  go_wp2
  go_ret
  exact ⟨rfl, HN.out, HT.out⟩

/-- What Cut answers. -/
def cutE (off : Bool) (n : Int) : Int := if off then 603 else if n < 0 then 600 else 0
theorem Cut_off (h : DiskAt w p i img true cut left writes) (n : Int) :
    Calls Try.prog 52 #[P p, .int .i64 n] w fun e w' => e = .returned (.int .i64 603) ∧ w = w' := by
  have HM := Lib.hid (may_any h)
  clear h
  go_enter Try.func52, Try.ntmps52
  go_wp2_with fail
  (with_reducible refine HM.out.mono ?_); rintro e w' ⟨rfl, rfl⟩
  simp only [offE, if_true]
  go_wp2
  go_ret
  exact ⟨rfl, rfl⟩
theorem Cut_neg (h : DiskAt w p i img false cut left writes) (n : Int) (hn : n < 0) :
    Calls Try.prog 52 #[P p, .int .i64 n] w fun e w' => e = .returned (.int .i64 600) ∧ w = w' := by
  have HM := Lib.hid (may_any h)
  clear h
  go_enter Try.func52, Try.ntmps52
  go_wp2_with fail
  (with_reducible refine HM.out.mono ?_); rintro e w' ⟨rfl, rfl⟩
  simp only [offE, if_false, Bool.false_eq_true]
  go_wp2
  go_ret
  exact ⟨rfl, rfl⟩
theorem Cut_ok (h : DiskAt w p i img false cut left writes) (n : Int) (hn : 0 ≤ n) :
    Calls Try.prog 52 #[P p, .int .i64 n] w fun e w' => e = .returned (.int .i64 0) ∧ DiskAt w' p i img (n == 0) true n writes ∧ Turned [p] w w' := by
  have HM := Lib.hid (may_any h)
  have h1 := h.c1
  have h2 := h.c2
  have h3 := h.c3
  have f1 := h.free 1
  have f2 := h.free 2
  have f3 := h.free 3
  have HN : Hid (DiskAt (((w.setCell ⟨p, 2, none⟩ (.bool true)).setCell ⟨p, 3, none⟩ (.int .i64 n)).setCell ⟨p, 1, none⟩ (.bool (n == 0))) p i img (n == 0) true n writes) := by
    refine ⟨blk_set (blk_set (blk_set h.1 2 (.bool true)) 3 (.int .i64 n)) 1 (.bool (n == 0)), ?_, h.2.2⟩
    rw [blk_other (fun e => h.2.2 e.symm), blk_other (fun e => h.2.2 e.symm), blk_other (fun e => h.2.2 e.symm)]; exact h.2.1
  have HT : Hid (Turned [p] w (((w.setCell ⟨p, 2, none⟩ (.bool true)).setCell ⟨p, 3, none⟩ (.int .i64 n)).setCell ⟨p, 1, none⟩ (.bool (n == 0)))) := (((Turned.refl [p] w).setCell (by simp) _).setCell (by simp) _).setCell (by simp) _
  clear h
  go_enter Try.func52, Try.ntmps52
  go_wp2_with fail
  (with_reducible refine HM.out.mono ?_); rintro e w' ⟨rfl, rfl⟩
  simp only [offE, if_false, Bool.false_eq_true]
  go_wp2
  go_ret
  exact ⟨rfl, HN.out, HT.out⟩

theorem block_off (h : DiskAt w p i img true cut left writes) (n : Int) :
    Calls Try.prog 75 #[P p, .int .i64 n] w fun e w' => e = .returned (.tuple #[.slice none 0 0, .int .i64 603]) ∧ w = w' := by
  have HM := Lib.hid (may_any h)
  clear h
  go_enter Try.func75, Try.ntmps75
  go_wp2_with fail
  (with_reducible refine HM.out.mono ?_); rintro e w' ⟨rfl, rfl⟩
  simp only [offE, if_true]
  go_wp2
  go_ret2
  exact ⟨rfl, rfl⟩
theorem block_out (h : DiskAt w p i img false cut left writes) (n : Int) (hl : img.length ≤ 16777216) (hn : n < 0 ∨ (img.length / 256 : Nat) ≤ n) :
    Calls Try.prog 75 #[P p, .int .i64 n] w fun e w' => e = .returned (.tuple #[.slice none 0 0, .int .i64 601]) ∧ w = w' := by
  have HM := Lib.hid (may_any h)
  have HB := Lib.hid (Blocks_any h hl)
  clear h
  rcases Int.lt_or_le n 0 with h0 | h0
  · have d1 : decide (n < 0) = true := by simpa using h0
    clear hn
    go_enter Try.func75, Try.ntmps75
    go_wp2_with fail
    (with_reducible refine HM.out.mono ?_); rintro e w' ⟨rfl, rfl⟩
    simp only [offE, if_false, Bool.false_eq_true]
    go_wp2
    go_ret2
    exact ⟨rfl, rfl⟩
  · have d1 : decide (n < 0) = false := by simp; omega
    have d2 : decide (((img.length / 256 : Nat) : Int) ≤ n) = true := by simp only [decide_eq_true_eq]; omega
    clear hn
    generalize img.length / 256 = m at *
    go_enter Try.func75, Try.ntmps75
    go_wp2_with fail
    (with_reducible refine HM.out.mono ?_); rintro e w' ⟨rfl, rfl⟩
    simp only [offE, if_false, Bool.false_eq_true]
    go_wp2_with fail
    (with_reducible refine HB.out.mono ?_); rintro e w' ⟨rfl, rfl⟩
    go_wp2
    go_ret2
    exact ⟨rfl, rfl⟩
theorem elemU8 (w : World) : (sizeOf (Try.prog.elem 83)).run Try.prog w = .ok 1 w := by kernel_rfl
theorem sliU8 : Try.prog.underlying 83 = some (.slice (Try.prog.elem 83)) := by kernel_rfl
theorem slice_block (i n len : Nat) (h : 256 * (n + 1) ≤ len) (w : World) :
    (Instr.slice 83 (.slice (some ⟨i, 0, none⟩) len len) (some (.int .i64 ((n : Int) * 256))) (some (.int .i64 (((n : Int) + 1) * 256))) none).run Try.prog w = .ok (.slice (some ⟨i, 256 * n, none⟩) 256 (len - 256 * n)) w := by
  rw [run_slice_lh w 83 _ len len sliU8 .i64 .i64 _ _ (by omega) (by omega) (by omega), elemU8]
  simp only [Result.andThen, sliced]
  rw [show ((n : Int) * 256).toNat = 256 * n from by omega, show (((n : Int) + 1) * 256).toNat = 256 * (n + 1) from by omega, if_neg (by omega), show 256 * (n + 1) - 256 * n = 256 from by omega]
  simp [Addr.add]
  omega
theorem block_in (h : DiskAt w p i img false cut left writes) (n : Nat) (hl : img.length ≤ 16777216) (hn : 256 * (n + 1) ≤ img.length) :
    Calls Try.prog 75 #[P p, .int .i64 n] w fun e w' => e = .returned (.tuple #[.slice (some ⟨i, 256 * n, none⟩) 256 (img.length - 256 * n), .int .i64 0]) ∧ w = w' := by
  have HM := Lib.hid (may_any h)
  have HB := Lib.hid (Blocks_any h hl)
  have h0 := h.c0
  have hsl := slice_block i n img.length hn
  clear h
  have d1 : decide ((n : Int) < 0) = false := by simp
  have d2 : decide (((img.length / 256 : Nat) : Int) ≤ n) = false := by simp only [decide_eq_false_iff_not]; omega
  have d3 : decide (img.length / 256 ≤ n) = false := by simp only [decide_eq_false_iff_not]; omega
  generalize img.length / 256 = m at *
  go_enter Try.func75, Try.ntmps75
  go_wp2_with fail
  (with_reducible refine HM.out.mono ?_); rintro e w' ⟨rfl, rfl⟩
  simp only [offE, if_false, Bool.false_eq_true]
  go_wp2_with fail
  (with_reducible refine HB.out.mono ?_); rintro e w' ⟨rfl, rfl⟩
  go_wp2
  go_ret2
  exact ⟨rfl, rfl⟩

/-- Block n of the bytes. -/
def blockOf (img : List UInt8) (n : Nat) : List UInt8 := (img.drop (256 * n)).take 256
theorem Read_off (h : DiskAt w p i img true cut left writes) (n : Int) :
    Calls Try.prog 56 #[P p, .int .i64 n] w fun e w' => e = .returned (.tuple #[.string ⟨#[]⟩, .int .i64 603]) ∧ w = w' := by
  have HB := Lib.hid (block_off h n)
  have hcv := fun w => run_convert_bytes_nil (P := Try.prog) w 83 5 Try.underlying83 Try.underlying5 0 0 9 Try.underlying9
  clear h
  go_enter Try.func56, Try.ntmps56
  go_wp2_with fail
  (with_reducible refine HB.out.mono ?_); rintro e w' ⟨rfl, rfl⟩
  go_wp2
  go_ret2
  exact ⟨rfl, rfl⟩
theorem Read_out (h : DiskAt w p i img false cut left writes) (n : Int) (hl : img.length ≤ 16777216) (hn : n < 0 ∨ (img.length / 256 : Nat) ≤ n) :
    Calls Try.prog 56 #[P p, .int .i64 n] w fun e w' => e = .returned (.tuple #[.string ⟨#[]⟩, .int .i64 601]) ∧ w = w' := by
  have HB := Lib.hid (block_out h n hl hn)
  have hcv := fun w => run_convert_bytes_nil (P := Try.prog) w 83 5 Try.underlying83 Try.underlying5 0 0 9 Try.underlying9
  clear h hn
  go_enter Try.func56, Try.ntmps56
  go_wp2_with fail
  (with_reducible refine HB.out.mono ?_); rintro e w' ⟨rfl, rfl⟩
  go_wp2
  go_ret2
  exact ⟨rfl, rfl⟩
theorem Read_in (h : DiskAt w p i img false cut left writes) (n : Nat) (hl : img.length ≤ 16777216) (hn : 256 * (n + 1) ≤ img.length) :
    Calls Try.prog 56 #[P p, .int .i64 n] w fun e w' => e = .returned (.tuple #[.string ⟨(blockOf img n).toArray⟩, .int .i64 0]) ∧ w = w' := by
  have HB := Lib.hid (block_in h n hl hn)
  have hcv := img_conv h (256 * n) 256 (img.length - 256 * n) (by omega)
  clear h
  go_enter Try.func56, Try.ntmps56
  go_wp2_with fail
  (with_reducible refine HB.out.mono ?_); rintro e w' ⟨rfl, rfl⟩
  go_wp2
  go_ret2
  exact ⟨rfl, rfl⟩

theorem Write_off (h : DiskAt w p i img true cut left writes) (n : Int) (s : ByteArray) :
    Calls Try.prog 53 #[P p, .int .i64 n, .string s] w fun e w' => e = .returned (.int .i64 603) ∧ w = w' := by
  have HB := Lib.hid (block_off h n)
  clear h
  go_enter Try.func53, Try.ntmps53
  go_wp2_with fail
  (with_reducible refine HB.out.mono ?_); rintro e w' ⟨rfl, rfl⟩
  go_wp2
  go_ret
  exact ⟨rfl, rfl⟩
theorem Write_out (h : DiskAt w p i img false cut left writes) (n : Int) (s : ByteArray) (hl : img.length ≤ 16777216) (hn : n < 0 ∨ (img.length / 256 : Nat) ≤ n) :
    Calls Try.prog 53 #[P p, .int .i64 n, .string s] w fun e w' => e = .returned (.int .i64 601) ∧ w = w' := by
  have HB := Lib.hid (block_out h n hl hn)
  clear h hn
  go_enter Try.func53, Try.ntmps53
  go_wp2_with fail
  (with_reducible refine HB.out.mono ?_); rintro e w' ⟨rfl, rfl⟩
  go_wp2
  go_ret
  exact ⟨rfl, rfl⟩
theorem Write_bytes (h : DiskAt w p i img false cut left writes) (n : Nat) (s : ByteArray) (hl : img.length ≤ 16777216) (hn : 256 * (n + 1) ≤ img.length) (hs : s.size ≠ 256) (hm : s.size ≤ 9223372036854775807) :
    Calls Try.prog 53 #[P p, .int .i64 n, .string s] w fun e w' => e = .returned (.int .i64 602) ∧ w = w' := by
  have HB := Lib.hid (block_in h n hl hn)
  have hd : ((s.size : Int) != 256) = true := by rw [bne_iff_ne]; omega
  clear h hs
  go_enter Try.func53, Try.ntmps53
  go_wp2_with fail
  (with_reducible refine HB.out.mono ?_); rintro e w' ⟨rfl, rfl⟩
  go_wp2
  go_ret
  exact ⟨rfl, rfl⟩
/-- The bytes with block n replaced. -/
def putBlock (img : List UInt8) (n : Nat) (s : List UInt8) : List UInt8 := img.take (256 * n) ++ s ++ img.drop (256 * n + 256)
theorem putBlock_len (img : List UInt8) (n : Nat) (s : List UInt8) (hn : 256 * (n + 1) ≤ img.length) (hs : s.length = 256) : (putBlock img n s).length = img.length := by
  simp [putBlock]; omega
theorem infoU8size : (Try.prog.info? 5).map (·.size) = some 1 := by kernel_rfl
theorem copy_img (h : DiskAt w p i img off cut left writes) (n cap : Nat) (s : ByteArray) (ty : TypeId) (hn : 256 * (n + 1) ≤ img.length) (hs : s.size = 256) :
    ∃ w2, (Builtin.copy_ #[83, 9] ty #[.slice (some ⟨i, 256 * n, none⟩) 256 cap, .string s]).run Try.prog w = .ok (goInt 256) w2 ∧ DiskAt w2 p i (putBlock img n s.data.toList) off cut left writes ∧ Turned [p, i] w w2 := by
  have := Lib.run_copy_row_string (P := Try.prog) w 83 9 ty 5 i (256 * n) 256 cap s _ _ Try.underlying83 infoU8size h.2.1 (by omega) (by simp; omega)
  rw [hs] at this
  have hl : s.data.toList.length = 256 := by rw [num.list_len]; exact hs
  have hpl := putBlock_len img n s.data.toList hn hl
  refine ⟨_, this, ⟨?_, ?_, h.2.2⟩, (Turned.refl _ _).setRow (by simp) _⟩
  · rw [blk_row_other h.2.2, hpl]; exact h.1
  · rw [blk_row h.2.1]
    have e : (img.map byteV).take (256 * n) ++ Lib.byteCells s.data.toList ++ (img.map byteV).drop (256 * n + 256) = (putBlock img n s.data.toList).map byteV := by
      simp only [putBlock, List.map_append, List.map_take, List.map_drop]; rfl
    rw [← e]

/-- The power behind a raw write. -/
def offBy (cut : Bool) (left : Int) : Bool := cut && decide (left - 1 ≤ 0)
theorem Write_ok (h : DiskAt w p i img false cut left writes) (n : Nat) (s : ByteArray) (hl : img.length ≤ 16777216) (hn : 256 * (n + 1) ≤ img.length) (hs : s.size = 256)
    (hl1 : -9223372036854775807 ≤ left) (hl2 : left ≤ 9223372036854775807) (hw1 : 0 ≤ writes) (hw2 : writes < 9223372036854775807) :
    Calls Try.prog 53 #[P p, .int .i64 n, .string s] w fun e w' => e = .returned (.int .i64 0) ∧ DiskAt w' p i (putBlock img n s.data.toList) (offBy cut left) cut (left - 1) (writes + 1) ∧ Turned [p, i] w w' := by
  have HB := Lib.hid (block_in h n hl hn)
  obtain ⟨w2, hcp, hd, ht⟩ := copy_img h n (img.length - 256 * n) s 3 hn hs
  have hne : ((s.size : Int) != 256) = false := by simp [hs]
  have c1 := hd.c1; have c2 := hd.c2; have c3 := hd.c3; have c4 := hd.c4
  have f1 := hd.free 1; have f3 := hd.free 3; have f4 := hd.free 4
  have HT := Lib.hid ht; have HD := Lib.hid hd
  clear h ht hd hs
  cases cut with
  | false =>
    go_enter Try.func53, Try.ntmps53
    go_wp2_with fail
    (with_reducible refine HB.out.mono ?_); rintro e w' ⟨rfl, rfl⟩
    go_wp2
    go_ret
    refine ⟨rfl, ⟨blk_set (blk_set (blk_set HD.out.1 4 (.int .i64 (writes + 1))) 3 (.int .i64 (left - 1))) 1 (.bool false), ?_, HD.out.2.2⟩, ((HT.out.setCell (by simp) _).setCell (by simp) _).setCell (by simp) _⟩
    have hne := HD.out.2.2
    rw [blk_other (fun e => hne e.symm), blk_other (fun e => hne e.symm), blk_other (fun e => hne e.symm)]; exact HD.out.2.1
  | true =>
    go_enter Try.func53, Try.ntmps53
    go_wp2_with fail
    (with_reducible refine HB.out.mono ?_); rintro e w' ⟨rfl, rfl⟩
    go_wp2
    go_ret
    refine ⟨rfl, ⟨blk_set (blk_set (blk_set HD.out.1 4 (.int .i64 (writes + 1))) 3 (.int .i64 (left - 1))) 1 (.bool (decide (left - 1 ≤ 0))), ?_, HD.out.2.2⟩, ((HT.out.setCell (by simp) _).setCell (by simp) _).setCell (by simp) _⟩
    have hne := HD.out.2.2
    rw [blk_other (fun e => hne e.symm), blk_other (fun e => hne e.symm), blk_other (fun e => hne e.symm)]; exact HD.out.2.1

/-! New -/
theorem New_bad (n : Int) (w : World) (h : n < 1 ∨ 65536 < n) :
    Calls Try.prog 51 #[.int .i64 n] w fun e w' => e = .returned (.tuple #[.pointer none, .int .i64 600]) ∧ w = w' := by
  rcases h with h | h
  · have d : decide (n < 1) = true := by simpa using h
    go_enter Try.func51, Try.ntmps51
    go_wp2
    go_ret2
    exact ⟨rfl, rfl⟩
  · have d : decide (n < 1) = false := by simp; omega
    have d2 : decide (65536 < n) = true := by simpa using h
    go_enter Try.func51, Try.ntmps51
    go_wp2
    go_ret2
    exact ⟨rfl, rfl⟩
def zeros (n : Nat) : List UInt8 := List.replicate n 0
def NewPost (n : Nat) (w : World) (e : Ending) (w' : World) : Prop :=
  e = .returned (.tuple #[P (w.heap.size + 1), .int .i64 0]) ∧ DiskAt w' (w.heap.size + 1) w.heap.size (zeros (256 * n)) false false 0 0 ∧ Below w.heap.size w w'
theorem New_ok (n : Nat) (w : World) (h1 : 1 ≤ n) (h2 : n ≤ 65536) : Calls Try.prog 51 #[.int .i64 n] w (NewPost n w) := by
  obtain ⟨i0, hi, hz0, hz1, hz2⟩ := info_parts num.infoU8
  have d : decide ((n : Int) < 1) = false := by simp; omega
  have d2 : decide (65536 < (n : Int)) = false := by simp; omega
  have hmk : ∀ u : World, (Instr.makeSlice 83 (.int .i64 ((n : Int) * 256)) (.int .i64 ((n : Int) * 256))).run Try.prog u =
      .ok (.slice (some ⟨u.heap.size, 0, none⟩) (256 * n) (256 * n)) (u.alloc (.cells (madeCells #[.int .u8 0] (256 * n)) 5)) := fun u => by
    have h := run_make (P := Try.prog) u 83 5 i0 (.int .u8 0) Try.underlying83 hi hz0 .i64 .i64 ((n : Int) * 256) ((n : Int) * 256) (by omega) (Int.le_refl _) (by rw [hz2]; omega) (by omega)
    rw [show ((n : Int) * 256).toNat = 256 * n from by omega] at h
    simpa [hz1, Value.cells] using h
  have HC : Hid (madeCells #[.int .u8 0] (256 * n) = ((zeros (256 * n)).map byteV).toArray) := by
    rw [Hid, ← Array.toList_inj, toList_madeCells_one]
    simp [zeros, byteV]
  have HL : Hid ((zeros (256 * n)).length = 256 * n) := by simp [Hid, zeros]
  generalize madeCells #[.int .u8 0] (256 * n) = C at *
  go_enter Try.func51, Try.ntmps51
  go_wp2
  go_ret2
  refine ⟨rfl, ⟨?_, ?_, by omega⟩, ((Below.refl _ _).alloc (Nat.le_refl _) _).alloc (by simp) _⟩
  · rw [HL.out]
    have := blk_new (w.alloc (.cells C 5)) (.cells #[.slice (some ⟨w.heap.size, 0, none⟩) (256 * n) (256 * n), .bool false, .bool false, .int .i64 0, .int .i64 0] 88)
    simpa using this
  · rw [← HC.out]
    exact blk_old (blk_new w _) _

/-! The statement's block of one byte -/
def rep (n : Nat) (c : UInt8) : List UInt8 := List.replicate n c
def one (c : UInt8) : List UInt8 := rep 256 c
theorem rep_len (n : Nat) (c : UInt8) : (rep n c).length = n := by simp [rep]
theorem one_len (c : UInt8) : (one c).length = 256 := rep_len 256 c
def fillTo (n : Nat) (c : UInt8) (k : Nat) : List Value := List.replicate k (byteV c) ++ List.replicate (n - k) (.int .u8 0)
theorem fillTo_get (n : Nat) (c : UInt8) (k : Nat) (h : k < n) : (fillTo n c k)[k]? = some (.int .u8 0) := by
  have : 0 < n - k := by omega
  simp [fillTo, List.getElem?_append, List.getElem?_replicate, this]
theorem fillTo_set (n : Nat) (c : UInt8) (k : Nat) (h : k < n) : (fillTo n c k).set k (byteV c) = fillTo n c (k + 1) := by
  unfold fillTo
  rw [List.set_append, if_neg (by simp), List.length_replicate, Nat.sub_self, show n - k = (n - 1 - k) + 1 from by omega, List.replicate_succ, List.set_cons_zero, List.replicate_succ', List.append_assoc, show n - (k + 1) = n - 1 - k from by omega]
  rfl
theorem fillTo_full (n : Nat) (c : UInt8) : fillTo n c n = ((rep n c).map fun x => (x.toNat : Int)).map (Value.int .u8) := by
  simp [fillTo, rep, byteV]
theorem rep_str (n : Nat) (c : UInt8) : strOfNums ((rep n c).map fun x => (x.toNat : Int)) = ⟨(rep n c).toArray⟩ := by
  simp [strOfNums, rep]
theorem fill_start (n : Nat) (c : UInt8) : (madeCells #[.int .u8 0] n).toList = fillTo n c 0 := by
  rw [toList_madeCells_one]; simp [fillTo]
set_option maxRecDepth 100000 in
theorem block_any (c : UInt8) (w : World) :
    Calls Try.prog 54 #[.int .u8 c.toNat] w fun e w' => e = .returned (.string ⟨(one c).toArray⟩) ∧ Below w.heap.size w w' := by
  obtain ⟨i0, hi, hz0, hz1, hz2⟩ := info_parts num.infoU8
  have hcn := c.toNat_lt
  go_enter Try.func54, Try.ntmps54
  go_wp2_with (at_make; refine wpList_make_full _ rfl _ _ 83 rfl w.heap.size 5 i0 (.int .u8 0) 1 Try.underlying83 hi hz0 hz1 .i64 .i64 256 256 256 rfl rfl rfl rfl (by rw [hz2]; omega) (by unfold maxLen; omega) (Nat.le_refl _) ?_; intro w1 hown1 hgrow1)
  have hb1 : Below w.heap.size w w1 := (Below.refl _ _).grown hgrow1 (Nat.le_refl _) (by simp)
  have hown2 : w1.ownsRow w.heap.size 5 1 (.slice (some ⟨w.heap.size, 0, none⟩) 256 256) 256 (fillTo 256 c 0) := by
    have e : (madeCells (Value.cells (.int .u8 0)) (256 * 1)).toList = fillTo 256 c 0 := fill_start 256 c
    rw [← e]; exact hown1
  clear hown1 hgrow1
  go_loopw [4] (fun i wr => ∃ k : Nat, k ≤ 256 ∧ i = .int .i64 k ∧ wr.ownsRow w.heap.size 5 1 (.slice (some ⟨w.heap.size, 0, none⟩) 256 256) 256 (fillTo 256 c k) ∧ Below w.heap.size w wr) (fun i _ => 256 - (intOf i).toNat)
  case atStart => exact ⟨0, Nat.zero_le _, rfl, hown2, hb1⟩
  case round =>
    obtain ⟨k, hk, rfl, hown, hbel⟩ := hrel
    by_cases hlt : k < 256
    · have hc : wr.cell? ⟨w.heap.size, k, none⟩ = some (.int .u8 0) := by rw [hown.cellAt k (by omega), fillTo_get _ _ _ hlt]
      have hf : wr.frozen? ⟨w.heap.size, k, none⟩ = false := hown.frozenAt k
      have R := hown.stored k (byteV c)
      rw [fillTo_set 256 c k hlt] at R
      have R2 := hbel.grown R.2 hbel.size (by intro j h; simp at h; omega)
      have HR := Lib.hid R.1; have HR2 := Lib.hid R2; clear R R2 hown
      go_wp2
      go_roundw
      case rel => exact ⟨k + 1, by omega, by go_num, HR.out, HR2.out⟩
      case measure => simp [intOf]; omega
    · obtain rfl : k = 256 := by omega
      rw [fillTo_full] at hown
      have hcv := num.conv_own hown
      rw [rep_str] at hcv
      clear hown
      go_wp2
      go_ret
      exact ⟨rfl, hbel⟩
end Go.Proofs.Ytjaljnpgomfmfaa.disk
