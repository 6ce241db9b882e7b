/-
  Proved: the statement InodeTexts, as a contract. Conditions: as each theorem says.
-/
import Derived.Test.YtjaljnpgomfmfaaInode12
namespace Go.Proofs.Ytjaljnpgomfmfaa.inode
open Go.RowKit
open heap
open num (Num_any list_len leS leE leGood U64)
set_option linter.unusedVariables false

/-- The inode, the one that is lent. -/
structure TxAt (kind size : Int) (a : Option Addr) (n ca : Nat) (ex : Nat → Ext) (w : World) (g cap : Nat) (wr : World) : Prop where
  c1 : wr.heap[w.heap.size]? = some (.cells #[.int .i64 kind, .int .i64 size, .slice a n ca] 73 (0, 0))
  c2 : wr.heap[w.heap.size + 1]? = some (.cells #[.int .i64 kind, .int .i64 size, .slice (some ⟨g, 0, none⟩) n cap] 73 (0, 0))
  lent : Lent wr (w.heap.size + 2) g n cap ex
  bel : Below w.heap.size w wr
theorem TxAt.below {kind size : Int} {a : Option Addr} {n ca : Nat} {ex : Nat → Ext} {w : World} {g cap : Nat} {wr w' : World} (h : TxAt kind size a n ca ex w g cap wr) (hb : Below wr.heap.size wr w') : TxAt kind size a n ca ex w g cap w' :=
  ⟨blk_below h.c1 hb, blk_below h.c2 hb, h.lent.below hb, h.bel.trans (hb.mono h.bel.size)⟩
theorem Lent.turned {w w' : World} {base g n cap : Nat} {ex : Nat → Ext} {S : List Nat} (h : Lent w base g n cap ex) (ht : Turned S w w') (hg : g ∉ S) : Lent w' base g n cap ex :=
  row_turned h ht (fun b hb => by cases hb; exact hg)
set_option maxRecDepth 100000 in
set_option maxHeartbeats 3200000 in
theorem texts (kind size : Int) (a : Option Addr) (n ca : Nat) (ex : Nat → Ext) (w : World) (hx : ExtsIn w a n ex) (hnil : a = none → ca = 0) (hb : n * 16 ≤ 140737488351232) :
    Calls Try.prog 11 #[inoV kind size a n ca] w fun e w' => e = .returned (.bool true) ∧ Below w.heap.size w w' := by
  have hn : n ≤ 9223372036854775807 := by omega
  have HX : Hid (∀ W : World, Below w.heap.size w W → ExtsIn W a n ex) := fun W h => hx.below h
  have HLE : Hid (∀ W : World, ExtsIn W a n ex → Calls Try.prog 61 #[.slice a n ca] W fun e w' => ∃ g cap, e = .returned (.slice (some ⟨g, 0, none⟩) n cap) ∧ Lent w' W.heap.size g n cap ex ∧ Below W.heap.size W w') := fun W h => LendExtents_any W a n ca ex h hnil hb
  have HBA : Hid (Below w.heap.size w ((w.alloc (.cells #[.int .i64 kind, .int .i64 size, .slice a n ca] 73)).alloc (.cells #[.int .i64 kind, .int .i64 size, .slice a n ca] 73))) := ((Below.refl _ _).alloc (Nat.le_refl _) _).alloc (by simp) _
  have HC1 := Lib.hid (blk_old (blk_new w (.cells #[.int .i64 kind, .int .i64 size, .slice a n ca] 73 (0, 0))) (.cells #[.int .i64 kind, .int .i64 size, .slice a n ca] 73 (0, 0)))
  have hc2 := blk_new (w.alloc (.cells #[.int .i64 kind, .int .i64 size, .slice a n ca] 73 (0, 0))) (.cells #[.int .i64 kind, .int .i64 size, .slice a n ca] 73 (0, 0))
  rw [World.size_alloc] at hc2
  have HC2 := Lib.hid hc2
  have HN := Lib.hid Num_any
  clear hx hnil hc2
  go_enter Try.func11, Try.ntmps11
  go_wp2_with fail
  (with_reducible refine (HLE.out _ (HX.out _ HBA.out)).mono ?_); rintro e w1 ⟨g, cap, rfl, hL, hb1⟩
  have hroom := hL.room
  have hc1 := blk_below HC1.out hb1
  have hc2 := blk_below HC2.out hb1
  rw [World.size_alloc, World.size_alloc] at hroom
  have HT : Hid (TxAt kind size a n ca ex w g cap (w1.setCell ⟨w.heap.size + 1, 2, none⟩ (.slice (some ⟨g, 0, none⟩) n cap))) := by
    have hL' := hL
    rw [World.size_alloc, World.size_alloc] at hL'
    refine ⟨?_, blk_set hc2 2 _, Lent.turned hL' ((Turned.refl [w.heap.size + 1] _).setCell (by simp) _) (by simp; omega), (HBA.out.trans (hb1.mono HBA.out.size)).setCell (by simp) _⟩
    rw [blk_other (by omega)]; exact hc1
  have k2 : w1.cell? ⟨w.heap.size + 1, 2, none⟩ = some (.slice a n ca) := by rw [blk_cell hc2]; rfl
  have k0 : w1.cell? ⟨w.heap.size + 1, 0, none⟩ = some (.int .i64 kind) := by rw [blk_cell hc2]; rfl
  have k1 : w1.cell? ⟨w.heap.size + 1, 1, none⟩ = some (.int .i64 size) := by rw [blk_cell hc2]; rfl
  have f2 : w1.frozen? ⟨w.heap.size + 1, 2, none⟩ = false := blk_free hc2 2
  clear hL hb1 hc1 hc2 hroom HC1 HC2 HBA
  go_wp2_with fail
  generalize w1.setCell ⟨w.heap.size + 1, 2, none⟩ (.slice (some ⟨g, 0, none⟩) n cap) = w2 at *
  clear k0 k1 k2 f2 HLE
  (with_reducible refine (Encode_any kind size _ n cap ex _ HT.out.lent.exts hn).mono ?_); rintro e w3 ⟨rfl, hb3⟩
  have HT3 := Lib.hid (HT.out.below hb3)
  clear hb3 HT
  obtain ⟨p0, p1, p2⟩ := blk3 HT3.out.c1
  obtain ⟨q0, q1, q2⟩ := blk3 HT3.out.c2
  cases hM : mayI kind size n ex with
  | false =>
    have HM := Lib.hid hM
    clear hM
    simp only [Bool.false_eq_true, if_false]
    go_wp2_with fail
    (with_reducible refine (KeptExtents_any _ _ _ _ _ _ _ ex HT3.out.lent (HX.out _ HT3.out.bel)).mono ?_); rintro e w4 ⟨rfl, hb4⟩
    have HT4 := Lib.hid (HT3.out.below hb4)
    clear hb4 HT3 p0 p1 p2 q0 q1 q2
    obtain ⟨p0, p1, p2⟩ := blk3 HT4.out.c1
    go_wp2_with fail
    (with_reducible refine (rmay_any kind size a n ca ex _ (HX.out _ HT4.out.bel) hn).mono ?_); rintro e w5 ⟨rfl, hb5⟩
    have HB5 : Hid (Below w.heap.size w w5) := HT4.out.bel.trans (hb5.mono HT4.out.bel.size)
    clear hb5 HT4 p0 p1 p2
    rw [HM.out]
    go_wp2_with (go_at_call 39; refine (HN.out _ _).mono ?_; rintro e w' ⟨rfl, rfl⟩)
    (with_reducible refine (awake_any _).mono ?_); rintro e w6 ⟨rfl, hb6⟩
    have HB6 : Hid (Below w.heap.size w w6) := HB5.out.trans (hb6.mono HB5.out.size)
    clear hb6
    go_wp2_with fail
    go_ret
    exact ⟨rfl, HB6.out⟩
  | true =>
    have HM := Lib.hid hM
    have HDO := Lib.hid (decOk_back kind size n ex hM)
    have HBK := Lib.hid (back kind size n ex hM)
    have HLD : Hid (∀ W : World, ExtsIn W a n ex → Calls Try.prog 67 #[inoV kind size a n ca] W fun e w' => e = .returned (.string ⟨(inoB kind size n ex).toArray⟩) ∧ Below W.heap.size W w') := fun W h => laid_yes kind size a n ca ex W h hM
    clear hM
    simp only [if_true]
    generalize (⟨(inoB kind size n ex).toArray⟩ : ByteArray) = S at *
    have HSM : Hid (∀ (W : World) (b : Option Addr) (cb : Nat), ExtsIn W b (fld S 1 1) (dEx S) → ExtsIn W a n ex → Calls Try.prog 68 #[inoV (fld S 0 1) (fld S 4 4) b (fld S 1 1) cb, inoV kind size a n ca] W fun e w' => e = .returned (.bool true) ∧ Below W.heap.size W w') := fun W b cb h1 h2 => by
      obtain ⟨_, e1, e2, e3, e4⟩ := HBK.out
      have := same_any (fld S 0 1) (fld S 4 4) b (fld S 1 1) cb (dEx S) kind size a n ca ex W h1 h2 (by omega) hn
      rw [show sameI (fld S 0 1) (fld S 4 4) (fld S 1 1) (dEx S) kind size n ex = true from by
        rw [e1, e2, e3]; simp [sameI, sameX, eqTo_iff]; exact e4] at this
      exact this
    clear HBK
    go_wp2_with fail
    (with_reducible refine (KeptExtents_any _ _ _ _ _ _ _ ex HT3.out.lent (HX.out _ HT3.out.bel)).mono ?_); rintro e w4 ⟨rfl, hb4⟩
    have HT4 := Lib.hid (HT3.out.below hb4)
    clear hb4 HT3 p0 p1 p2 q0 q1 q2
    obtain ⟨p0, p1, p2⟩ := blk3 HT4.out.c1
    go_wp2_with fail
    (with_reducible refine (rmay_any kind size a n ca ex _ (HX.out _ HT4.out.bel) hn).mono ?_); rintro e w5 ⟨rfl, hb5⟩
    have HT5 := Lib.hid (HT4.out.below hb5)
    clear hb5 HT4 p0 p1 p2
    rw [HM.out]
    go_wp2_with fail
    (with_reducible refine (Decode_yes S _ HDO.out).mono ?_); rintro e w6 ⟨b, cb, rfl, hX6, hb6⟩
    have HT6 : Hid (TxAt kind size a n ca ex w g cap (w6.alloc (.cells #[.int .i64 (fld S 0 1), .int .i64 (fld S 4 4), .slice b (fld S 1 1) cb] 73))) := (HT5.out.below hb6).below ((Below.refl _ _).alloc (Nat.le_refl _) _)
    have HX6 : Hid (XRow (w6.alloc (.cells #[.int .i64 (fld S 0 1), .int .i64 (fld S 4 4), .slice b (fld S 1 1) cb] 73)) w5.heap.size (.slice b (fld S 1 1) cb) (fld S 1 1) (dEx S)) := hX6.below ((Below.refl _ _).alloc (Nat.le_refl _) _)
    have HC6 := Lib.hid (blk_new w6 (.cells #[.int .i64 (fld S 0 1), .int .i64 (fld S 4 4), .slice b (fld S 1 1) cb] 73 (0, 0)))
    clear hX6 hb6 HT5
    go_wp2_with fail
    generalize w6.alloc (.cells #[.int .i64 (fld S 0 1), .int .i64 (fld S 4 4), .slice b (fld S 1 1) cb] 73) = W6 at *
    generalize w6.heap.size = g6 at *
    obtain ⟨p0, p1, p2⟩ := blk3 HT6.out.c1
    refine (HN.out _ _).mono ?_; rintro e w' ⟨rfl, rfl⟩
    go_wp2_with fail
    (with_reducible refine (HLD.out _ (HX.out _ HT6.out.bel)).mono ?_); rintro e w7 ⟨rfl, hb7⟩
    have HT7 := Lib.hid (HT6.out.below hb7)
    have HX7 := Lib.hid (HX6.out.below hb7)
    have hc7 := blk_below HC6.out hb7
    clear hb7 HT6 HX6 HC6 p0 p1 p2
    obtain ⟨p0, p1, p2⟩ := blk3 HT7.out.c1
    obtain ⟨q0, q1, q2⟩ := blk3 hc7
    clear hc7
    go_wp2_with (go_at_call 39; refine (HN.out _ _).mono ?_; rintro e w' ⟨rfl, rfl⟩)
    (with_reducible refine (HSM.out _ _ _ HX7.out.exts (HX.out _ HT7.out.bel)).mono ?_); rintro e w8 ⟨rfl, hb8⟩
    have HB8 : Hid (Below w.heap.size w w8) := HT7.out.bel.trans (hb8.mono HT7.out.bel.size)
    clear hb8 HT7 HX7 p0 p1 p2 q0 q1 q2
    go_wp2_with fail
    (with_reducible refine (awake_any _).mono ?_); rintro e w9 ⟨rfl, hb9⟩
    have HB9 : Hid (Below w.heap.size w w9) := HB8.out.trans (hb9.mono HB8.out.size)
    clear hb9
    go_wp2_with fail
    go_ret
    exact ⟨rfl, HB9.out⟩
end Go.Proofs.Ytjaljnpgomfmfaa.inode
