/-
  Proved: the statements InodeTexts and InodeReads, as contracts. Conditions: as each theorem says.
-/
import Derived.Test.YtjaljnpgomfmfaaInode11
namespace Go.Proofs.Ytjaljnpgomfmfaa.inode
open Go.RowKit
open heap
open num (Num_any list_len leS leE leGood U64)
set_option linter.unusedVariables false

set_option maxRecDepth 100000 in
theorem Spoil_zero (w : World) (a : Option Addr) (cap : Nat) :
    Calls Try.prog 69 #[.slice a 0 cap] w fun e w' => (∃ v, e = .returned v) ∧ w = w' := by
  go_enter Try.func69, Try.ntmps69
  go_wp2_with fail
  go_loopw [2] (fun i wr => i = .int .i64 0 ∧ Hid (w = wr)) (fun _ _ => 0)
  case atStart => exact ⟨rfl, rfl⟩
  case round =>
    obtain ⟨rfl, HW⟩ := hrel
    go_wp2_with fail
    go_end0
    exact ⟨⟨_, rfl⟩, HW.out⟩
theorem Spoil_any (w : World) (base n : Nat) (a : Option Addr) (cap : Nat) (ex : Nat → Ext) (hX : XRow w base (.slice a n cap) n ex) :
    Calls Try.prog 69 #[.slice a n cap] w fun e w' => (∃ v, e = .returned v) ∧ Turned ((Value.slice a n cap).ownBlock.toList) w w' := by
  have hx := hX.exts
  obtain ⟨hl, ⟨h1, rfl⟩ | ⟨g, c, cur, hv, h2, h3, h4, h5, h6⟩⟩ := hX
  · refine (Spoil_zero w a cap).mono ?_
    rintro e w' ⟨he, rfl⟩
    exact ⟨he, Turned.refl _ _⟩
  · simp only [Value.slice.injEq] at hv
    obtain ⟨rfl, -, rfl⟩ := hv
    unfold maxLen at h5
    refine SpoilExtents_any w g n cap cur h3 (fun i hi => ?_) (by omega)
    obtain ⟨b, off, e, _, hc⟩ := hx (by omega)
    simp only [Option.some.injEq, Addr.mk.injEq] at e
    obtain ⟨rfl, rfl, -⟩ := e
    have := (hc i hi).1
    rw [Nat.zero_add] at this
    exact ⟨_, this⟩
theorem sameI_refl (k s : Int) (n : Nat) (ex : Nat → Ext) : sameI k s n ex k s n ex = true := by simp [sameI, sameX, eqTo_iff]
theorem XRow.below {w w' : World} {base n : Nat} {v : Value} {ex : Nat → Ext} (h : XRow w base v n ex) (hb : Below w.heap.size w w') : XRow w' base v n ex :=
  row_turned h (Turned.of_below (S := []) hb) (fun _ _ hm => by cases hm)
/-- Two inodes held at a time. -/
structure RdAt (ex : Nat → Ext) (kd sz n : Nat) (w : World) (g1 g2 : Nat) (a : Option Addr) (ca : Nat) (b : Option Addr) (cb : Nat) (wr : World) : Prop where
  c1 : wr.heap[g1]? = some (.cells #[.int .i64 kd, .int .i64 sz, .slice a n ca] 73 (0, 0))
  c2 : wr.heap[g2]? = some (.cells #[.int .i64 kd, .int .i64 sz, .slice b n cb] 73 (0, 0))
  x1 : XRow wr w.heap.size (.slice a n ca) n ex
  x2 : XRow wr w.heap.size (.slice b n cb) n ex
  sep : ∀ g, (Value.slice a n ca).ownBlock = some g → (Value.slice b n cb).ownBlock ≠ some g ∧ g ≠ g2
  bel : Below w.heap.size w wr
theorem RdAt.below {ex : Nat → Ext} {kd sz n : Nat} {w : World} {g1 g2 : Nat} {a : Option Addr} {ca : Nat} {b : Option Addr} {cb : Nat} {wr w' : World} (h : RdAt ex kd sz n w g1 g2 a ca b cb wr) (hb : Below wr.heap.size wr w') : RdAt ex kd sz n w g1 g2 a ca b cb w' :=
  ⟨blk_below h.c1 hb, blk_below h.c2 hb, h.x1.below hb, h.x2.below hb, h.sep, h.bel.trans (hb.mono h.bel.size)⟩
theorem XRow.base {w : World} {b b' n : Nat} {v : Value} {ex : Nat → Ext} (h : XRow w b v n ex) (hb : b' ≤ b) : XRow w b' v n ex := row_base h hb
theorem blk3 {w : World} {g : Nat} {x y z : Value} {t : TypeId} {fr : Nat × Nat} (h : w.heap[g]? = some (.cells #[x, y, z] t fr)) : w.cell? ⟨g, 0, none⟩ = some x ∧ w.cell? ⟨g, 1, none⟩ = some y ∧ w.cell? ⟨g, 2, none⟩ = some z :=
  ⟨by rw [blk_cell h]; rfl, by rw [blk_cell h]; rfl, by rw [blk_cell h]; rfl⟩
set_option maxRecDepth 100000 in
set_option maxHeartbeats 1600000 in
theorem reads_yes (S : ByteArray) (w : World) (hm : S.size ≤ maxLen) (h : decOk S = true) :
    Calls Try.prog 12 #[.string S] w fun e w' => e = .returned (.bool true) ∧ Below w.heap.size w w' := by
  obtain ⟨hS, h14, hmay, hino⟩ := decOk_size h
  have HD := Lib.hid (fun W => Decode_yes S W h)
  have HI : Hid ((⟨(inoB (fld S 0 1) (fld S 4 4) (fld S 1 1) (dEx S)).toArray⟩ : ByteArray) = S) := by rw [Hid, hino]
  have HL : Hid (∀ (W : World) (a : Option Addr) (cap : Nat), ExtsIn W a (fld S 1 1) (dEx S) → Calls Try.prog 67 #[inoV (fld S 0 1) (fld S 4 4) a (fld S 1 1) cap] W fun e w' => e = .returned (.string S) ∧ Below W.heap.size W w') := fun W a cap hx => by
    have := laid_yes (fld S 0 1) (fld S 4 4) a (fld S 1 1) cap (dEx S) W hx hmay
    rw [HI.out] at this
    exact this
  have HM : Hid (∀ (W : World) (a : Option Addr) (cap : Nat), ExtsIn W a (fld S 1 1) (dEx S) → Calls Try.prog 64 #[inoV (fld S 0 1) (fld S 4 4) a (fld S 1 1) cap] W fun e w' => e = .returned (.bool true) ∧ Below W.heap.size W w') := fun W a cap hx => by
    have := rmay_any (fld S 0 1) (fld S 4 4) a (fld S 1 1) cap (dEx S) W hx (by omega)
    rw [hmay] at this
    exact this
  have HSA : Hid (∀ (W : World) (a b : Option Addr) (ca cb : Nat), ExtsIn W a (fld S 1 1) (dEx S) → ExtsIn W b (fld S 1 1) (dEx S) → Calls Try.prog 68 #[inoV (fld S 0 1) (fld S 4 4) a (fld S 1 1) ca, inoV (fld S 0 1) (fld S 4 4) b (fld S 1 1) cb] W fun e w' => e = .returned (.bool true) ∧ Below W.heap.size W w') := fun W a b ca cb hx hy => by
    have := same_any (fld S 0 1) (fld S 4 4) a (fld S 1 1) ca (dEx S) (fld S 0 1) (fld S 4 4) b (fld S 1 1) cb (dEx S) W hx hy (by omega) (by omega)
    rw [sameI_refl] at this
    exact this
  have HN := Lib.hid Num_any
  clear h hS hmay hino HI
  generalize fld S 0 1 = kd at *
  generalize fld S 4 4 = sz at *
  generalize fld S 1 1 = n at *
  go_enter Try.func12, Try.ntmps12
  go_wp2_with fail
  (with_reducible refine (HD.out _).mono ?_); rintro e w1 ⟨a, ca, rfl, hX1, hb1⟩
  have HC1 := Lib.hid (blk_new w1 (.cells #[.int .i64 kd, .int .i64 sz, .slice a n ca] 73 (0, 0)))
  have HX1 := Lib.hid hX1
  have HB1 := Lib.hid hb1
  clear hX1 hb1
  go_wp2_with fail
  (with_reducible refine (HD.out _).mono ?_); rintro e w2 ⟨b, cb, rfl, hX2, hb2⟩
  have HR : Hid (RdAt (dEx S) kd sz n w w1.heap.size w2.heap.size a ca b cb (w2.alloc (.cells #[.int .i64 kd, .int .i64 sz, .slice b n cb] 73))) := by
    have hal : Below w2.heap.size w2 (w2.alloc (.cells #[.int .i64 kd, .int .i64 sz, .slice b n cb] 73)) := (Below.refl _ _).alloc (Nat.le_refl _) _
    have hal1 : Below w1.heap.size w1 (w1.alloc (.cells #[.int .i64 kd, .int .i64 sz, .slice a n ca] 73)) := (Below.refl _ _).alloc (Nat.le_refl _) _
    have hs2 := hb2.size
    have hs1 := HB1.out.size
    rw [World.size_alloc] at hs2
    refine ⟨blk_below (blk_below HC1.out hb2) hal, blk_new _ _, ((HX1.out.below hal1).below hb2).below hal, (hX2.below hal).base (by rw [World.size_alloc]; omega), fun g hg => ?_, ((HB1.out.alloc HB1.out.size _).trans (hb2.mono (by rw [World.size_alloc]; omega))).alloc (by omega) _⟩
    have h1 := World.ownsRow.lt HX1.out g hg
    refine ⟨fun h2 => ?_, by omega⟩
    have h3 := World.ownsRow.lt hX2 g h2
    rw [World.size_alloc] at h3
    omega
  have hgl : w1.heap.size < w2.heap.size := by have := hb2.size; rw [World.size_alloc] at this; omega
  clear hX2 hb2 HX1 HC1 HB1
  go_wp2_with fail
  generalize w1.heap.size = g1 at *
  generalize hW2 : w2.alloc (.cells #[.int .i64 kd, .int .i64 sz, .slice b n cb] 73) = W2 at *
  clear hW2
  generalize w2.heap.size = g2 at *
  obtain ⟨p0, p1, p2⟩ := blk3 HR.out.c1
  obtain ⟨q0, q1, q2⟩ := blk3 HR.out.c2
  refine (HN.out _ _).mono ?_; rintro e w' ⟨rfl, rfl⟩
  go_wp2_with (go_at_call 39; refine (HN.out _ _).mono ?_; rintro e w' ⟨rfl, rfl⟩)
  (with_reducible refine (HSA.out _ _ _ _ _ HR.out.x1.exts HR.out.x2.exts).mono ?_); rintro e w3 ⟨rfl, hb3⟩
  have HR3 := Lib.hid (HR.out.below hb3)
  clear hb3 p0 p1 p2 q0 q1 q2 HR
  obtain ⟨p0, p1, p2⟩ := blk3 HR3.out.c1
  go_wp2_with (go_at_call 39; refine (HN.out _ _).mono ?_; rintro e w' ⟨rfl, rfl⟩)
  (with_reducible refine (HM.out _ _ _ HR3.out.x1.exts).mono ?_); rintro e w4 ⟨rfl, hb4⟩
  have HR4 := Lib.hid (HR3.out.below hb4)
  clear hb4 p0 p1 p2 HR3
  obtain ⟨p0, p1, p2⟩ := blk3 HR4.out.c1
  go_wp2_with fail
  (with_reducible refine (HL.out _ _ _ HR4.out.x1.exts).mono ?_); rintro e w5 ⟨rfl, hb5⟩
  have HR5 := Lib.hid (HR4.out.below hb5)
  clear hb5 p0 p1 p2 HR4
  obtain ⟨p0, p1, p2⟩ := blk3 HR5.out.c1
  go_wp2_with fail
  (with_reducible refine (Spoil_any _ _ _ _ _ _ HR5.out.x1).mono ?_); rintro e w6 ⟨⟨v, rfl⟩, ht6⟩
  have hc2 : w6.heap[g2]? = some (.cells #[.int .i64 kd, .int .i64 sz, .slice b n cb] 73 (0, 0)) := ht6.kept HR5.out.c2 (fun hm => (HR5.out.sep g2 (by simpa using hm)).2 rfl)
  have HX6 : Hid (XRow w6 w.heap.size (.slice b n cb) n (dEx S)) := row_turned HR5.out.x2 ht6 (fun g hg hm => (HR5.out.sep g (by simpa using hm)).1 hg)
  have HB6 : Hid (Below w.heap.size w w6) := HR5.out.bel.trans (ht6.below HR5.out.bel.size (fun g hm => (World.ownsRow.lt HR5.out.x1 g (by simpa using hm)).1))
  clear ht6 p0 p1 p2 HR5
  obtain ⟨q0, q1, q2⟩ := blk3 hc2
  clear hc2
  go_wp2_with fail
  (with_reducible refine (HL.out _ _ _ HX6.out.exts).mono ?_); rintro e w7 ⟨rfl, hb7⟩
  have HB7 : Hid (Below w.heap.size w w7) := HB6.out.trans (hb7.mono HB6.out.size)
  clear hb7
  go_wp2_with fail
  (with_reducible refine (awake_any _).mono ?_); rintro e w8 ⟨rfl, hb8⟩
  have HB8 : Hid (Below w.heap.size w w8) := HB7.out.trans (hb8.mono HB7.out.size)
  clear hb8
  go_wp2_with fail
  go_ret
  exact ⟨rfl, HB8.out⟩
set_option maxRecDepth 100000 in
set_option maxHeartbeats 1600000 in
theorem reads_no (S : ByteArray) (w : World) (hm : S.size ≤ maxLen) (h : decOk S = false) :
    Calls Try.prog 12 #[.string S] w fun e w' => e = .returned (.bool true) ∧ Below w.heap.size w w' := by
  have HD := Lib.hid (fun W => Decode_no S W hm h)
  have HS := Lib.hid (fun W => sound_any S W hm)
  have HH := Lib.hid h
  have HSA : Hid (∀ W : World, Calls Try.prog 68 #[inoV 0 0 none 0 0, inoV 0 0 none 0 0] W fun e w' => e = .returned (.bool true) ∧ Below W.heap.size W w') := fun W => by
    have := same_any 0 0 none 0 0 exA 0 0 none 0 0 exA W (fun h => by omega) (fun h => by omega) (by omega) (by omega)
    rw [sameI_refl] at this
    exact this
  have HN := Lib.hid Num_any
  clear h
  go_enter Try.func12, Try.ntmps12
  go_wp2_with fail
  (with_reducible refine (HD.out _).mono ?_); rintro e w1 ⟨rfl, hb1⟩
  have HC1 := Lib.hid (blk_new w1 (.cells #[.int .i64 0, .int .i64 0, .slice none 0 0] 73 (0, 0)))
  have HB1 : Hid (Below w.heap.size w (w1.alloc (.cells #[.int .i64 0, .int .i64 0, .slice none 0 0] 73))) := hb1.alloc hb1.size _
  clear hb1
  go_wp2_with fail
  (with_reducible refine (HD.out _).mono ?_); rintro e w2 ⟨rfl, hb2⟩
  have HB2 : Hid (Below w.heap.size w (w2.alloc (.cells #[.int .i64 0, .int .i64 0, .slice none 0 0] 73))) := (HB1.out.trans (hb2.mono HB1.out.size)).alloc (Nat.le_trans HB1.out.size hb2.size) _
  have hc1 := blk_old (blk_below HC1.out hb2) (.cells #[.int .i64 0, .int .i64 0, .slice none 0 0] 73 (0, 0))
  have hc2 := blk_new w2 (.cells #[.int .i64 0, .int .i64 0, .slice none 0 0] 73 (0, 0))
  go_wp2_with fail
  generalize hW2 : w2.alloc (.cells #[.int .i64 0, .int .i64 0, .slice none 0 0] 73) = W2 at *
  clear hb2 hW2 HC1 HB1
  generalize w1.heap.size = g1 at *
  generalize w2.heap.size = g2 at *
  obtain ⟨p0, p1, p2⟩ := blk3 hc1
  obtain ⟨q0, q1, q2⟩ := blk3 hc2
  have HC1 := Lib.hid hc1
  clear hc1 hc2
  refine (HN.out _ _).mono ?_; rintro e w' ⟨rfl, rfl⟩
  go_wp2_with (go_at_call 39; refine (HN.out _ _).mono ?_; rintro e w' ⟨rfl, rfl⟩)
  (with_reducible refine (HSA.out _).mono ?_); rintro e w3 ⟨rfl, hb3⟩
  have HB3 : Hid (Below w.heap.size w w3) := HB2.out.trans (hb3.mono HB2.out.size)
  have hc3 := blk_below HC1.out hb3
  clear hb3 p0 p1 p2 q0 q1 q2
  obtain ⟨p0, p1, p2⟩ := blk3 hc3
  clear hc3
  go_wp2_with (go_at_call 39; refine (HN.out _ _).mono ?_; rintro e w' ⟨rfl, rfl⟩)
  (with_reducible refine (HSA.out _).mono ?_); rintro e w4 ⟨rfl, hb4⟩
  have HB4 : Hid (Below w.heap.size w w4) := HB3.out.trans (hb4.mono HB3.out.size)
  clear hb4 p0 p1 p2
  go_wp2_with fail
  (with_reducible refine (HS.out _).mono ?_); rintro e w5 ⟨rfl, hb5⟩
  have HB5 : Hid (Below w.heap.size w w5) := HB4.out.trans (hb5.mono HB4.out.size)
  clear hb5
  rw [HH.out]
  go_wp2_with fail
  (with_reducible refine (awake_any _).mono ?_); rintro e w6 ⟨rfl, hb6⟩
  have HB6 : Hid (Below w.heap.size w w6) := HB5.out.trans (hb6.mono HB5.out.size)
  clear hb6
  go_wp2_with fail
  go_ret
  exact ⟨rfl, HB6.out⟩
theorem reads (S : ByteArray) (w : World) (hm : S.size ≤ maxLen) :
    Calls Try.prog 12 #[.string S] w fun e w' => e = .returned (.bool true) ∧ Below w.heap.size w w' := by
  cases h : decOk S with
  | false => exact reads_no S w hm h
  | true => exact reads_yes S w hm h
end Go.Proofs.Ytjaljnpgomfmfaa.inode
