/-
  Proved: what SpoilExtents leaves, what inode.Decode's own reader gives. Conditions: as each theorem says.
-/
import Derived.Test.YtjaljnpgomfmfaaInode6
namespace Go.Proofs.Ytjaljnpgomfmfaa.inode
open Go.RowKit
open heap
open num (Num_any list_len leS leE leGood U64)
set_option linter.unusedVariables false

set_option maxRecDepth 100000 in
set_option maxHeartbeats 1600000 in
theorem SpoilExtents_any (w : World) (g n cap : Nat) (cur : Array Value) (hb : w.heap[g]? = some (.cells cur 41 (0, 0))) (hz : ∀ i, i < n → ∃ z, w.cell? ⟨g, i * 2, none⟩ = some (.int .i64 z)) (hn : n ≤ 9223372036854775807) :
    Calls Try.prog 69 #[.slice (some ⟨g, 0, none⟩) n cap] w fun e w' => (∃ v, e = .returned v) ∧ Turned [g] w w' := by
  have HZ := Lib.hid hz
  have HB := Lib.hid hb
  clear hz hb
  go_enter Try.func69, Try.ntmps69
  go_wp2_with fail
  go_loopw [2] (fun i wr => ∃ k : Nat, k ≤ n ∧ i = .int .i64 k ∧ Hid (∃ cs, wr.heap[g]? = some (.cells cs 41 (0, 0))) ∧ Hid (∀ i, i < n → ∃ z, wr.cell? ⟨g, i * 2, none⟩ = some (.int .i64 z)) ∧ Hid (Turned [g] w wr)) (fun i _ => n - (intOf i).toNat)
  case atStart => exact ⟨0, Nat.zero_le _, rfl, ⟨_, HB.out⟩, HZ, Turned.refl _ _⟩
  case round =>
    obtain ⟨k, hk, rfl, HC, HZ2, HT⟩ := hrel
    by_cases hlt : k < n
    · obtain ⟨cs, hcs⟩ := HC.out
      obtain ⟨z, hz⟩ := HZ2.out k hlt
      have hf : wr.frozen? ⟨g, k * 2, none⟩ = false := blk_free hcs _
      have HN : ∀ v, Hid (∃ cs, (wr.setCell ⟨g, k * 2, none⟩ v).heap[g]? = some (.cells cs 41 (0, 0))) := fun v => ⟨_, blk_set hcs _ _⟩
      have HM : ∀ y, Hid (∀ i, i < n → ∃ z, (wr.setCell ⟨g, k * 2, none⟩ (.int .i64 y)).cell? ⟨g, i * 2, none⟩ = some (.int .i64 z)) := fun y i hi => by
        rw [blk_cell (blk_set hcs _ _), Array.getElem?_setIfInBounds]
        obtain ⟨z, hz⟩ := HZ2.out i hi
        rw [blk_cell hcs] at hz
        by_cases e : k * 2 = i * 2
        · have : k * 2 < cs.size := by rw [e]; exact (Array.getElem?_eq_some_iff.1 hz).1
          rw [if_pos e, if_pos this]; exact ⟨y, rfl⟩
        · rw [if_neg e]; exact ⟨z, hz⟩
      have HN' := Lib.hid HN
      have HM' := Lib.hid HM
      clear HN HM hcs
      go_wp2_with fail
      go_roundw
      case rel => exact ⟨k + 1, by omega, by go_num, HN'.out _, HM'.out _, HT.out.setCell (by simp) _⟩
      case measure => simp [intOf]; omega
    · go_wp2_with fail
      go_end0
      exact ⟨⟨_, rfl⟩, HT.out⟩
/-- A number in a text, the lowest byte first. -/
def fld (S : ByteArray) (f n : Nat) : Nat := num.ofLeL ((S.data.toList.drop f).take n)
theorem fld_lt (S : ByteArray) (f n : Nat) : fld S f n < 256 ^ n := by
  refine Nat.lt_of_lt_of_le (num.ofLeL_lt _) (Nat.pow_le_pow_right (by omega) ?_)
  rw [List.length_take]; omega
theorem fld_sub (S : ByteArray) (f n : Nat) (h : f + n ≤ S.size) (h1 : 1 ≤ n) (h8 : n ≤ 8) : num.ofLeV (S.extract f (f + n)) = fld S f n ∧ (S.extract f (f + n)).size = n := by
  have hs : (S.extract f (f + n)).size = n := by rw [ByteArray.size_extract]; omega
  have e : (S.extract f (f + n)).data.toList = (S.data.toList.drop f).take n := by
    rw [ByteArray.data_extract, Array.toList_extract, List.extract_eq_take_drop]
    rw [show f + n - f = n by omega]
  refine ⟨?_, hs⟩
  unfold num.ofLeV
  rw [if_neg (by omega), e]
  rfl
theorem pow4 {n : Nat} (h : n ≤ 4) : 256 ^ n ≤ 4294967296 := Nat.le_trans (Nat.pow_le_pow_right (by omega) h) (by decide)
set_option maxRecDepth 100000 in
theorem at_nat (S : ByteArray) (B f n : Nat) (w : World) (hc : w.cell? ⟨B, 0, none⟩ = some (.string S)) (hS : S.size = 64) (h : f + n ≤ 64) (h1 : 1 ≤ n) (h4 : n ≤ 4) :
    Calls Try.prog 81 #[.int .i64 f, .int .i64 n, .pointer (some ⟨B, 0, none⟩)] w fun e w' => e = .returned (.int .i64 (fld S f n)) ∧ w = w' := by
  obtain ⟨e1, e2⟩ := fld_sub S f n (by omega) h1 (by omega)
  have hl := fld_lt S f n
  have h44 := pow4 h4
  have hlt : (fld S f n : Int) < 4294967296 := by omega
  have HO := Lib.hid (fun w => num.OfLe_any (S.extract f (f + n)) w (by rw [e2]; unfold maxLen; omega))
  have HE := Lib.hid e1
  have hS1 : S.size ≤ 64 := by omega
  have hS2 : 64 ≤ S.size := by omega
  clear hl h44 e1 e2 hS
  go_enter Try.func81, Try.ntmps81
  go_wp2_with fail
  (with_reducible refine (HO.out _).mono ?_); rintro e w2 ⟨rfl, rfl⟩
  rw [HE.out]
  go_wp2_with fail
  go_ret
  exact ⟨rfl, rfl⟩
theorem at_any (S : ByteArray) (B : Nat) (f n : Int) (w : World) (hc : w.cell? ⟨B, 0, none⟩ = some (.string S)) (hS : S.size = 64) (h0 : 0 ≤ f) (h : f + n ≤ 64) (h1 : 1 ≤ n) (h4 : n ≤ 4) :
    Calls Try.prog 81 #[.int .i64 f, .int .i64 n, .pointer (some ⟨B, 0, none⟩)] w fun e w' => e = .returned (.int .i64 (fld S f.toNat n.toNat)) ∧ w = w' := by
  obtain ⟨a, rfl⟩ := Int.eq_ofNat_of_zero_le h0
  obtain ⟨b, rfl⟩ := Int.eq_ofNat_of_zero_le (show 0 ≤ n by omega)
  exact at_nat S B a b w hc hS (by omega) (by omega) (by omega)
theorem fld_one (S : ByteArray) (i : Nat) (h : i < S.size) : fld S i 1 = S[i].toNat := by
  unfold fld
  rw [List.drop_eq_getElem_cons (by simpa using h)]
  simp [num.ofLeL]
  rfl
def dEx (S : ByteArray) (k : Nat) : Ext := ((fld S (8 + 4 * k) 2 : Nat), (fld S (10 + 4 * k) 2 : Nat))
def decOk (S : ByteArray) : Bool := decide (S.size = 64) && (decide (fld S 1 1 ≤ 14) && (mayI (fld S 0 1) (fld S 4 4) (fld S 1 1) (dEx S) && decide (inoB (fld S 0 1) (fld S 4 4) (fld S 1 1) (dEx S) = S.data.toList)))
set_option maxRecDepth 100000 in
set_option maxHeartbeats 1600000 in
theorem Decode_bad (S : ByteArray) (w : World) (hm : S.size ≤ maxLen) (hbad : S.size ≠ 64 ∨ (∃ h : S.size = 64, 14 < fld S 1 1)) :
    Calls Try.prog 66 #[.string S] w fun e w' => e = .returned (.tuple #[inoV 0 0 none 0 0, .int .i64 1000]) ∧ Below w.heap.size w w' := by
  unfold maxLen at hm
  rcases hbad with hb | ⟨hb, h14⟩
  · have b1 : ((S.size : Int) != 64) = true := by rw [bne_iff_ne]; omega
    clear hb
    go_enter Try.func66, Try.ntmps66
    go_wp2_with fail
    refine bodyPost_ret (v := .tuple #[inoV 0 0 none 0 0, .int .i64 1000]) (by simp [results, Try.results66, go_sem]) rfl ⟨rfl, ?_⟩
    exact ((Below.refl _ _).alloc (Nat.le_refl _) _).alloc (by simp) _
  · have b1 : ((S.size : Int) != 64) = false := by rw [hb]; rfl
    have h1 : 1 < S.size := by omega
    rw [fld_one S 1 h1] at h14
    have hi : (1 : Int) < S.size := by omega
    clear hb
    go_enter Try.func66, Try.ntmps66
    go_wp2_with fail
    refine bodyPost_ret (v := .tuple #[inoV 0 0 none 0 0, .int .i64 1000]) (by simp [results, Try.results66, go_sem]) rfl ⟨rfl, ?_⟩
    exact ((Below.refl _ _).alloc (Nat.le_refl _) _).alloc (by simp) _
end Go.Proofs.Ytjaljnpgomfmfaa.inode
