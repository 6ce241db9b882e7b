/-
  Proved: which texts the statement's own sound takes. Conditions: as each theorem says.
-/
import Derived.Test.YtjaljnpgomfmfaaInode9
namespace Go.Proofs.Ytjaljnpgomfmfaa.inode
open Go.RowKit
open heap
open num (Num_any list_len leS leE leGood U64)
set_option linter.unusedVariables false

set_option maxRecDepth 100000 in
set_option maxHeartbeats 1600000 in
theorem sound_bad (S : ByteArray) (w : World) (hm : S.size ≤ maxLen) (hbad : S.size ≠ 64 ∨ (∃ h : S.size = 64, 14 < fld S 1 1)) :
    Calls Try.prog 70 #[.string S] w fun e w' => e = .returned (.bool (decOk S)) ∧ Below w.heap.size w w' := by
  have HN : Hid (decOk S = false) := by
    rcases hbad with hb | ⟨hb, h14⟩
    · simp [Hid, decOk, hb]
    · have : ¬ fld S 1 1 ≤ 14 := by omega
      simp [Hid, decOk, this]
  unfold maxLen at hm
  rcases hbad with hb | ⟨hb, h14⟩
  · have b1 : ((S.size : Int) != 64) = true := by rw [bne_iff_ne]; omega
    clear hb
    go_enter Try.func70, Try.ntmps70
    go_wp2_with fail
    go_ret
    exact ⟨ret_bool HN.out.symm, Below.refl _ _⟩
  · have b1 : ((S.size : Int) != 64) = false := by rw [hb]; rfl
    have h1 : 1 < S.size := by omega
    rw [fld_one S 1 h1] at h14
    have hi : (1 : Int) < S.size := by omega
    clear hb
    go_enter Try.func70, Try.ntmps70
    go_wp2_with fail
    go_ret
    exact ⟨ret_bool HN.out.symm, Below.refl _ _⟩
theorem rOf (S : ByteArray) (f t n : Nat) (w : World) (hS : S.size = 64) (ht : t = f + n) (h : f + n ≤ 64) (h1 : 1 ≤ n) (h4 : n ≤ 4) :
    Calls Try.prog 36 #[.string (S.extract f t)] w fun e w' => ∃ er, e = .returned (.tuple #[.int .u64 (fld S f n), .int .i64 er]) ∧ w = w' := by
  subst ht
  obtain ⟨e1, e2⟩ := fld_sub S f n (by omega) h1 (by omega)
  have := num.rOfLe_any (S.extract f (f + n)) w (by rw [e2]; unfold maxLen; omega)
  rw [e1] at this
  refine this.mono ?_
  rintro e w' ⟨rfl, rfl⟩
  exact ⟨_, rfl, rfl⟩
/-- What is known of the blocks of sound in a round. -/
structure SndAt (S : ByteArray) (w : World) (sv : Value) (k : Nat) (wr : World) : Prop where
  ino : wr.heap[w.heap.size]? = some (.cells #[.int .i64 (fld S 0 1), .int .i64 (fld S 4 4), sv] 73 (0, 0))
  row : wr.ownsRow (w.heap.size + 1) 41 2 sv k (exCells (dEx S) k)
  bel : Below w.heap.size w wr
set_option maxRecDepth 100000 in
set_option maxHeartbeats 1600000 in
theorem sound_main (S : ByteArray) (w : World) (hS : S.size = 64) (h14 : fld S 1 1 ≤ 14) :
    Calls Try.prog 70 #[.string S] w fun e w' => e = .returned (.bool (decOk S)) ∧ Below w.heap.size w w' := by
  have b1 : ((S.size : Int) != 64) = false := by rw [hS]; rfl
  have h1 : 1 < S.size := by omega
  have h0 : 0 < S.size := by omega
  have HF0 := Lib.hid (fld_one S 0 h0)
  have HF1 := Lib.hid (fld_one S 1 h1)
  have h15 : ¬ 14 < S[1].toNat := by rw [← fld_one S 1 h1]; omega
  have b2 : decide ((14 : Int) < ((S[1].toNat : Nat) : Int)) = false := by simp; omega
  have hi : (1 : Int) < S.size := by omega
  have hi8 : 8 ≤ S.size := by omega
  have hl4 : (fld S 4 4 : Int) < 4294967296 := by have := fld_lt S 4 4; have h : (256 : Nat) ^ 4 = 4294967296 := rfl; omega
  have hb0 : S[0].toNat < 256 := S[0].toNat_lt
  have hb1 : S[1].toNat < 256 := S[1].toNat_lt
  have HS := Lib.hid hS
  clear hS
  go_enter Try.func70, Try.ntmps70
  go_wp2_with fail
  (with_reducible refine (rOf S 4 8 4 _ HS.out (by decide) (by decide) (by decide) (by decide)).mono ?_); rintro e w1 ⟨er, rfl, rfl⟩
  have HD0 : Hid (SndAt S w (.slice none 0 0) 0 (w.alloc (.cells #[.int .i64 ((S[0].toNat : Nat) : Int), .int .i64 (fld S 4 4), .slice none 0 0] 73))) := by
    rw [← HF0.out]
    exact ⟨blk_new _ _, World.ownsRow_nil _ _ _ _, (Below.refl _ _).alloc (Nat.le_refl _) _⟩
  go_wp2_with fail
  generalize w.alloc (.cells #[.int .i64 ((S[0].toNat : Nat) : Int), .int .i64 (fld S 4 4), .slice none 0 0] 73) = W0 at *
  go_loopw [6] (fun i wr => ∃ (k : Nat) (sv : Value), k ≤ fld S 1 1 ∧ i = .int .i64 k ∧ Hid (SndAt S w sv k wr)) (fun i _ => fld S 1 1 - (intOf i).toNat)
  case atStart => exact ⟨0, _, Nat.zero_le _, rfl, HD0⟩
  case round =>
    obtain ⟨k, sv, hk, rfl, HD⟩ := hrel
    by_cases hlt : k < fld S 1 1
    · have hk14 : k < 14 := by omega
      have hlt2 : k < S[1].toNat := by rw [← HF1.out]; exact hlt
      have HSV := Lib.hid HD.out.row.lt
      have hp := blk_cell HD.out.ino 2
      have hc2 : wr.cell? ⟨w.heap.size, 2, none⟩ = some sv := by rw [hp]; rfl
      have hf2 : wr.frozen? ⟨w.heap.size, 2, none⟩ = false := blk_free HD.out.ino 2
      have hpl : w.heap.size < wr.heap.size := blk_lt HD.out.ino
      have hS64 : 64 ≤ S.size := by rw [HS.out]; omega
      have hm1 : (fld S (8 + 4 * k) 2 : Int) < 65536 := by have := fld_lt S (8 + 4 * k) 2; have h : (256 : Nat) ^ 2 = 65536 := rfl; omega
      have hm2 : (fld S (10 + 4 * k) 2 : Int) < 65536 := by have := fld_lt S (10 + 4 * k) 2; have h : (256 : Nat) ^ 2 = 65536 := rfl; omega
      clear hp
      go_wp2_with fail
      (with_reducible refine (rOf S (8 + 4 * k) (10 + 4 * k) 2 _ HS.out (by omega) (by omega) (by decide) (by decide)).mono ?_); rintro e w1 ⟨er1, rfl, rfl⟩
      go_wp2_with fail
      (with_reducible refine (rOf S (10 + 4 * k) (12 + 4 * k) 2 _ HS.out (by omega) (by omega) (by decide) (by decide)).mono ?_); rintro e w1 ⟨er2, rfl, rfl⟩
      obtain ⟨v2, w2, hrun, hown, hgr⟩ := append_x (wr.alloc (.cells #[.int .i64 (fld S (8 + 4 * k) 2), .int .i64 (fld S (10 + 4 * k) 2)] 41)) (w.heap.size + 1) sv k _ (HD.out.row.alloc _) ⟨wr.heap.size, 0, none⟩ 1 1 [.int .i64 (dEx S k).1, .int .i64 (dEx S k).2] rfl (fun j u hu => by rw [add0, blk_cell (blk_new wr _)]; simpa [dEx] using hu) (by simp [Value.oneCell']) (by omega) (by simp; omega)
      rw [← exCells_snoc] at hown
      have hne : ∀ b, sv.ownBlock = some b → b ≠ w.heap.size := fun b hb => by have := (HSV.out b hb).1; omega
      have hino2 : w2.heap[w.heap.size]? = some (.cells #[.int .i64 (fld S 0 1), .int .i64 (fld S 4 4), sv] 73 (0, 0)) := by
        rw [hgr.block w.heap.size (by simp; omega) (fun e => hne _ e.symm rfl)]
        exact blk_old HD.out.ino _
      have HB2 : Hid (Below w.heap.size w w2) := (HD.out.bel.alloc HD.out.bel.size _).grown hgr (by simp; omega) (fun b e => by have := (HSV.out b e).1; omega)
      have k2 : w2.cell? ⟨w.heap.size, 2, none⟩ = some sv := by rw [blk_cell hino2]; rfl
      have g2 : w2.frozen? ⟨w.heap.size, 2, none⟩ = false := blk_free hino2 2
      obtain ⟨a9, n9, c9, rfl⟩ : ∃ a9 n9 c9, v2 = .slice a9 n9 c9 := by
        obtain ⟨_, ⟨h, _⟩ | ⟨_, _, _, h, _⟩⟩ := hown <;> exact ⟨_, _, _, h⟩
      have HD2 : Hid (SndAt S w (.slice a9 n9 c9) (k + 1) (w2.setCell ⟨w.heap.size, 2, none⟩ (.slice a9 n9 c9))) := by
        refine ⟨blk_set hino2 2 _, row_turned hown ((heap.Turned.refl [w.heap.size] _).setCell (by simp) _) (fun b hb hm => ?_), HB2.out.setCell (by simp) _⟩
        have := (World.ownsRow.lt hown b hb).1
        simp at hm
        omega
      have HR := Lib.hid hrun
      clear hrun hown hgr hino2 hne
      go_wp2_with (at_builtin; refine reg.wpList_append rfl rfl rfl rfl rfl HR.out ?_)
      go_roundw
      case rel => exact ⟨k + 1, _, by omega, by go_num, HD2⟩
      case measure => simp [intOf]; omega
    · obtain rfl : k = fld S 1 1 := by omega
      have hge2 : ¬ fld S 1 1 < S[1].toNat := by rw [← HF1.out]; omega
      obtain ⟨a, cap, rfl⟩ : ∃ a cap, sv = .slice a (fld S 1 1) cap := by
        obtain ⟨_, ⟨h, h0⟩ | ⟨_, _, _, h, _⟩⟩ := HD.out.row
        · exact ⟨none, 0, by rw [h, h0]⟩
        · exact ⟨_, _, h⟩
      have HX : Hid (ExtsIn wr a (fld S 1 1) (dEx S)) := XRow.exts HD.out.row
      have i0 : wr.cell? ⟨w.heap.size, 0, none⟩ = some (.int .i64 (fld S 0 1)) := by rw [blk_cell HD.out.ino]; rfl
      have i1 : wr.cell? ⟨w.heap.size, 1, none⟩ = some (.int .i64 (fld S 4 4)) := by rw [blk_cell HD.out.ino]; rfl
      have i2 : wr.cell? ⟨w.heap.size, 2, none⟩ = some (.slice a (fld S 1 1) cap) := by rw [blk_cell HD.out.ino]; rfl
      have HDO : Hid (decOk S = (mayI (fld S 0 1) (fld S 4 4) (fld S 1 1) (dEx S) && decide (inoB (fld S 0 1) (fld S 4 4) (fld S 1 1) (dEx S) = S.data.toList))) := by
        rw [Hid, decOk, HS.out]; simp [h14]
      have HM := Lib.hid (rmay_any (fld S 0 1) (fld S 4 4) a (fld S 1 1) cap (dEx S) wr HX.out (by omega))
      go_wp2_with fail
      (with_reducible refine HM.out.mono ?_); rintro e w3 ⟨rfl, hb3⟩
      have HB3 : Hid (Below w.heap.size w w3) := HD.out.bel.trans (hb3.mono HD.out.bel.size)
      have hbI := blk_below HD.out.ino hb3
      have HX3 := Lib.hid (HX.out.below hb3)
      have j0 : w3.cell? ⟨w.heap.size, 0, none⟩ = some (.int .i64 (fld S 0 1)) := by rw [blk_cell hbI]; rfl
      have j1 : w3.cell? ⟨w.heap.size, 1, none⟩ = some (.int .i64 (fld S 4 4)) := by rw [blk_cell hbI]; rfl
      have j2 : w3.cell? ⟨w.heap.size, 2, none⟩ = some (.slice a (fld S 1 1) cap) := by rw [blk_cell hbI]; rfl
      clear hb3 hbI i0 i1 i2 HM
      cases hM : mayI (fld S 0 1) (fld S 4 4) (fld S 1 1) (dEx S) with
      | false =>
        have HN : Hid (decOk S = false) := by rw [Hid, HDO.out, hM]; rfl
        clear hM
        go_wp2_with fail
        go_ret
        exact ⟨ret_bool HN.out.symm, HB3.out⟩
      | true =>
        have HL := Lib.hid (laid_yes (fld S 0 1) (fld S 4 4) a (fld S 1 1) cap (dEx S) w3 HX3.out hM)
        have HN : Hid (decOk S = ((⟨(inoB (fld S 0 1) (fld S 4 4) (fld S 1 1) (dEx S)).toArray⟩ : ByteArray).toList == S.toList)) := by
          rw [Hid, HDO.out, hM, Bool.true_and, toList_data, toList_data]
          simp [Bool.beq_eq_decide_eq]
        clear hM
        go_wp2_with fail
        (with_reducible refine HL.out.mono ?_); rintro e w4 ⟨rfl, hb4⟩
        have HB4 : Hid (Below w.heap.size w w4) := HB3.out.trans (hb4.mono HB3.out.size)
        clear hb4
        generalize (⟨(inoB (fld S 0 1) (fld S 4 4) (fld S 1 1) (dEx S)).toArray⟩ : ByteArray) = T at *
        go_wp2_with fail
        go_ret
        exact ⟨ret_bool HN.out.symm, HB4.out⟩
theorem sound_any (S : ByteArray) (w : World) (hm : S.size ≤ maxLen) :
    Calls Try.prog 70 #[.string S] w fun e w' => e = .returned (.bool (decOk S)) ∧ Below w.heap.size w w' := by
  by_cases h1 : S.size = 64
  · by_cases h2 : fld S 1 1 ≤ 14
    · exact sound_main S w h1 h2
    · exact sound_bad S w hm (.inr ⟨h1, by omega⟩)
  · exact sound_bad S w hm (.inl h1)
end Go.Proofs.Ytjaljnpgomfmfaa.inode
