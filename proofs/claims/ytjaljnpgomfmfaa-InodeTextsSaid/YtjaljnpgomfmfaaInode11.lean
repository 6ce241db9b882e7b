/-
  Proved: the statements InodeTexts and InodeReads, as contracts. Conditions: as each theorem says.
-/
import Derived.Test.YtjaljnpgomfmfaaInode10
namespace Go.Proofs.Ytjaljnpgomfmfaa.inode
open Go.RowKit
open heap
open num (Num_any list_len leS leE leGood U64)
set_option linter.unusedVariables false

theorem decOk_size {S : ByteArray} (h : decOk S = true) : S.size = 64 ∧ fld S 1 1 ≤ 14 ∧ mayI (fld S 0 1) (fld S 4 4) (fld S 1 1) (dEx S) = true ∧ inoB (fld S 0 1) (fld S 4 4) (fld S 1 1) (dEx S) = S.data.toList := by
  simp only [decOk, Bool.and_eq_true, decide_eq_true_eq] at h
  exact ⟨h.1, h.2.1, h.2.2.1, h.2.2.2⟩
theorem Decode_yes (S : ByteArray) (w : World) (h : decOk S = true) :
    Calls Try.prog 66 #[.string S] w fun e w' => ∃ a cap, e = .returned (.tuple #[inoV (fld S 0 1) (fld S 4 4) a (fld S 1 1) cap, .int .i64 0]) ∧ XRow w' w.heap.size (.slice a (fld S 1 1) cap) (fld S 1 1) (dEx S) ∧ Below w.heap.size w w' := by
  obtain ⟨h1, h2, _⟩ := decOk_size h
  refine (Decode_main S w h1 h2).mono ?_
  rintro e w' ⟨hy, _, hb⟩
  obtain ⟨a, cap, he, hx⟩ := hy h
  exact ⟨a, cap, he, hx, hb⟩
theorem Decode_no (S : ByteArray) (w : World) (hm : S.size ≤ maxLen) (h : decOk S = false) :
    Calls Try.prog 66 #[.string S] w fun e w' => e = .returned (.tuple #[inoV 0 0 none 0 0, .int .i64 1000]) ∧ Below w.heap.size w w' := by
  by_cases h1 : S.size = 64
  · by_cases h2 : fld S 1 1 ≤ 14
    · refine (Decode_main S w h1 h2).mono ?_
      rintro e w' ⟨_, hn, hb⟩
      exact ⟨hn h, hb⟩
    · exact Decode_bad S w hm (.inr ⟨h1, by omega⟩)
  · exact Decode_bad S w hm (.inl h1)
def exA : Nat → Ext := fun _ => (7, 2)
def awS : ByteArray := ⟨(inoB 2 300 1 exA).toArray⟩
theorem awS_size : awS.size = 64 := by decide +kernel
theorem awS_12 : awS.extract 0 12 = ⟨#[2, 1, 0, 0, 44, 1, 0, 0, 7, 0, 2, 0]⟩ := by decide +kernel
theorem aw_may : mayI 2 300 1 exA = true := by decide +kernel
theorem aw_not : mayI 2 300 0 exA = false := by decide +kernel
theorem aw_dec : decOk ⟨#[]⟩ = false := by decide +kernel
set_option maxRecDepth 100000 in
set_option maxHeartbeats 1600000 in
theorem awake_any (w : World) : Calls Try.prog 65 #[] w fun e w' => e = .returned (.bool true) ∧ Below w.heap.size w w' := by
  have HE1 : Hid (∀ W : World, ExtsIn W (some ⟨w.heap.size, 0, none⟩) 1 exA → Calls Try.prog 62 #[inoV 2 300 (some ⟨w.heap.size, 0, none⟩) 1 1] W fun e w' => e = .returned (.tuple #[.string awS, .int .i64 0]) ∧ Below W.heap.size W w') := fun W h => Encode_yes 2 300 _ 1 1 exA W h aw_may
  have HE2 : Hid (∀ W : World, Calls Try.prog 62 #[inoV 2 300 none 0 0] W fun e w' => e = .returned (.tuple #[.string ⟨#[]⟩, .int .i64 1000]) ∧ Below W.heap.size W w') := fun W => Encode_no 2 300 _ 0 0 exA W (fun h => by omega) (by omega) aw_not
  have HD : Hid (∀ W : World, Calls Try.prog 66 #[.string ⟨#[]⟩] W fun e w' => e = .returned (.tuple #[inoV 0 0 none 0 0, .int .i64 1000]) ∧ Below W.heap.size W w') := fun W => Decode_no ⟨#[]⟩ W (by unfold maxLen; exact Nat.zero_le _) aw_dec
  have HX : Hid (ExtsIn (w.alloc (.cells #[.int .i64 7, .int .i64 2] 41)) (some ⟨w.heap.size, 0, none⟩) 1 exA) := by
    intro _
    refine ⟨w.heap.size, 0, rfl, by simp, fun i hi => ?_⟩
    obtain rfl : i = 0 := by omega
    rw [blk_cell (blk_new w _), blk_cell (blk_new w _)]
    exact ⟨rfl, rfl⟩
  have HBA : Hid (Below w.heap.size w (w.alloc (.cells #[.int .i64 7, .int .i64 2] 41))) := (Below.refl _ _).alloc (Nat.le_refl _) _
  go_enter Try.func65, Try.ntmps65
  go_wp2_with fail
  (with_reducible refine (HE1.out _ HX.out).mono ?_); rintro e w1 ⟨rfl, hb1⟩
  have HB1 : Hid (Below w.heap.size w w1) := HBA.out.trans (hb1.mono HBA.out.size)
  clear hb1
  go_wp2_with fail
  (with_reducible refine (HE2.out _).mono ?_); rintro e w2 ⟨rfl, hb2⟩
  have HB2 : Hid (Below w.heap.size w w2) := HB1.out.trans (hb2.mono HB1.out.size)
  clear hb2
  go_wp2_with fail
  (with_reducible refine (HD.out _).mono ?_); rintro e w3 ⟨rfl, hb3⟩
  have HB3 : Hid (Below w.heap.size w w3) := HB2.out.trans (hb3.mono HB2.out.size)
  clear hb3
  have z1 := awS_size
  have z2 := awS_12
  have HN := Lib.hid Num_any
  go_wp2_with (go_at_call 39; refine (HN.out _ _).mono ?_; rintro e w' ⟨rfl, rfl⟩)
  go_ret
  exact ⟨rfl, HB3.out.alloc HB3.out.size _⟩
end Go.Proofs.Ytjaljnpgomfmfaa.inode
