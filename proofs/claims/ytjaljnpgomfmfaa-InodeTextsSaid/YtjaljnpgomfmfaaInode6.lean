/-
  Proved: what the statement's own helpers on extents give (same, LendExtents, KeptExtents, SpoilExtents). Conditions: as each theorem says.
-/
import Derived.Test.YtjaljnpgomfmfaaInode5
namespace Go.Proofs.Ytjaljnpgomfmfaa.inode
open Go.RowKit
open heap
open num (Num_any list_len leS leE leGood U64)
set_option linter.unusedVariables false

def sameI (k1 s1 : Int) (n : Nat) (ex : Nat → Ext) (k2 s2 : Int) (m : Nat) (ey : Nat → Ext) : Bool := (k1 == k2) && ((s1 == s2) && sameX n m ex ey)
set_option maxRecDepth 100000 in
set_option maxHeartbeats 1600000 in
theorem same_any (k1 s1 : Int) (a : Option Addr) (n ca : Nat) (ex : Nat → Ext) (k2 s2 : Int) (b : Option Addr) (m cb : Nat) (ey : Nat → Ext) (w : World) (hx : ExtsIn w a n ex) (hy : ExtsIn w b m ey) (hn : n ≤ 9223372036854775807) (hm : m ≤ 9223372036854775807) :
    Calls Try.prog 68 #[inoV k1 s1 a n ca, inoV k2 s2 b m cb] w fun e w' => e = .returned (.bool (sameI k1 s1 n ex k2 s2 m ey)) ∧ Below w.heap.size w w' := by
  have hba : Below w.heap.size w ((w.alloc (.cells #[.int .i64 k1, .int .i64 s1, .slice a n ca] 73)).alloc (.cells #[.int .i64 k2, .int .i64 s2, .slice b m cb] 73)) := ((Below.refl _ _).alloc (Nat.le_refl _) _).alloc (by simp) _
  have HBA := Lib.hid hba
  by_cases h1 : k1 = k2
  · by_cases h2 : s1 = s2
    · have HS : Hid (sameI k1 s1 n ex k2 s2 m ey = sameX n m ex ey) := by simp [Hid, sameI, h1, h2]
      have b1 : (k1 == k2) = true := by simp [h1]
      have b2 : (s1 == s2) = true := by simp [h2]
      have HX := Lib.hid (hx.below hba)
      have HY := Lib.hid (hy.below hba)
      clear h1 h2 hx hy hba
      go_enter Try.func68, Try.ntmps68
      go_wp2_with fail
      (with_reducible refine (SameExtents_any _ _ _ _ _ _ ex ey _ HX.out HY.out hn hm).mono ?_); rintro e w2 ⟨rfl, hb2⟩
      have HB2 := Lib.hid (HBA.out.trans (hb2.mono HBA.out.size))
      clear hb2
      generalize sameX n m ex ey = r at *
      go_wp2_with fail
      go_ret
      exact ⟨ret_bool HS.out.symm, HB2.out⟩
    · have HS : Hid (sameI k1 s1 n ex k2 s2 m ey = false) := by simp [Hid, sameI, h1, h2]
      have b1 : (k1 == k2) = true := by simp [h1]
      have b2 : (s1 == s2) = false := by simp [h2]
      clear h1 h2 hx hy hba
      go_enter Try.func68, Try.ntmps68
      go_wp2_with fail
      go_ret
      exact ⟨ret_bool HS.out.symm, HBA.out⟩
  · have HS : Hid (sameI k1 s1 n ex k2 s2 m ey = false) := by simp [Hid, sameI, h1]
    have b1 : (k1 == k2) = false := by simp [h1]
    clear h1 hx hy hba
    go_enter Try.func68, Try.ntmps68
    go_wp2_with fail
    go_ret
    exact ⟨ret_bool HS.out.symm, HBA.out⟩

def mark2 : List Value := [.int .i64 77777, .int .i64 0, .int .i64 77777, .int .i64 0]
/-- A row of extents with the marked room behind them. -/
def Lent (w : World) (base g n cap : Nat) (ex : Nat → Ext) : Prop := w.ownsRow base 41 2 (.slice (some ⟨g, 0, none⟩) (n + 2) cap) (n + 2) (exCells ex n ++ mark2)
theorem Lent.below {w w' : World} {base g n cap : Nat} {ex : Nat → Ext} (h : Lent w base g n cap ex) (hb : Below w.heap.size w w') : Lent w' base g n cap ex := by
  obtain ⟨hl, h1 | ⟨g', c, cur, hv, h2, h3, h4⟩⟩ := h
  · omega
  · exact ⟨hl, .inr ⟨g', c, cur, hv, h2, blk_below h3 hb, h4⟩⟩
theorem Lent.exts {w : World} {base g n cap : Nat} {ex : Nat → Ext} (h : Lent w base g n cap ex) : ExtsIn w (some ⟨g, 0, none⟩) n ex :=
  rowExts h (fun j hj => by rw [List.getElem?_append_left (by rw [exCells_len]; exact hj)])
theorem Lent.room {w : World} {base g n cap : Nat} {ex : Nat → Ext} (h : Lent w base g n cap ex) : n + 2 ≤ cap ∧ cap ≤ maxLen ∧ base ≤ g ∧ g < w.heap.size := by
  have h5 := h.lt g rfl
  obtain ⟨hl, h1 | ⟨g', c, cur, hv, h2, h3, h4⟩⟩ := h
  · omega
  · simp only [Value.slice.injEq, Option.some.injEq, Addr.mk.injEq] at hv
    obtain ⟨⟨rfl, _⟩, _, rfl⟩ := hv
    exact ⟨h4.1, h4.2.1, h5⟩
theorem Lent.marks {w : World} {base g n cap : Nat} {ex : Nat → Ext} (h : Lent w base g n cap ex) : w.cell? ⟨g, n * 2, none⟩ = some (.int .i64 77777) ∧ w.cell? ⟨g, n * 2 + 1, none⟩ = some (.int .i64 0) ∧ w.cell? ⟨g, (n + 1) * 2, none⟩ = some (.int .i64 77777) ∧ w.cell? ⟨g, (n + 1) * 2 + 1, none⟩ = some (.int .i64 0) := by
  have hc := World.ownsRow.cells h (g := g) rfl
  have key : ∀ k u, mark2[k]? = some u → w.cell? ⟨g, n * 2 + k, none⟩ = some u := fun k u hu => by
    have := hc (n * 2 + k) u (by rw [List.getElem?_append_right (by rw [exCells_len]; omega), exCells_len, show n * 2 + k - n * 2 = k by omega, hu])
    rwa [add0] at this
  have h2 := key 2 _ rfl
  have h3 := key 3 _ rfl
  exact ⟨key 0 _ rfl, key 1 _ rfl, by rw [show (n + 1) * 2 = n * 2 + 2 by omega]; exact h2, by rw [show (n + 1) * 2 + 1 = n * 2 + 3 by omega]; exact h3⟩
set_option maxRecDepth 100000 in
theorem LendExtents_any (w : World) (a : Option Addr) (n ca : Nat) (ex : Nat → Ext) (hx : ExtsIn w a n ex) (hnil : a = none → ca = 0) (hb : n * 16 ≤ 140737488351232) :
    Calls Try.prog 61 #[.slice a n ca] w fun e w' => ∃ g cap, e = .returned (.slice (some ⟨g, 0, none⟩) n cap) ∧ Lent w' w.heap.size g n cap ex ∧ Below w.heap.size w w' := by
  have HC := Lib.hid (CopyExtents_any w a n ca ex hx hnil (by omega))
  clear hx hnil
  go_enter Try.func61, Try.ntmps61
  go_wp2_with fail
  (with_reducible refine HC.out.mono ?_); rintro e w1 ⟨v', rfl, hX, hB1⟩
  have hz : w1.heap.size < (w1.alloc (.cells #[.int .i64 77777, .int .i64 0, .int .i64 77777, .int .i64 0] 41)).heap.size := by simp
  obtain ⟨v2, w2, hr, hown, hg⟩ := append_x (w1.alloc (.cells #[.int .i64 77777, .int .i64 0, .int .i64 77777, .int .i64 0] 41)) w.heap.size v' n _ (World.ownsRow.alloc hX _) ⟨w1.heap.size, 0, none⟩ 2 2 mark2 rfl
    (fun j u hu => by
      rw [add0, blk_cell (blk_new w1 _)]
      simpa [mark2] using hu) (by simp [mark2, Value.oneCell']) (by omega) (by have := hB1.size; simp; omega)
  obtain ⟨g, cap, rfl, hg1, hg2⟩ := hown.form (by omega)
  have HL : Hid (Lent w2 w.heap.size g n cap ex) := hown
  have hroom := HL.out.room
  have hr1 := hroom.1
  have hr2 := hroom.2.1
  unfold maxLen at hr2
  have HB : Hid (Below w.heap.size w w2) := (hB1.alloc hB1.size _).grown hg (by have := hB1.size; simp; omega) (fun k e => (World.ownsRow.lt hX k e).1)
  have HR := Lib.hid hr
  clear hr hown hg hX hB1 hroom hg1 hg2
  go_wp2_with (at_builtin; refine reg.wpList_append rfl rfl rfl rfl rfl HR.out ?_)
  go_ret
  exact ⟨_, _, rfl, HL.out, HB.out⟩
set_option maxRecDepth 100000 in
set_option maxHeartbeats 1600000 in
theorem KeptExtents_any (w : World) (base g n cap : Nat) (a : Option Addr) (ca : Nat) (ex : Nat → Ext) (hL : Lent w base g n cap ex) (hx : ExtsIn w a n ex) :
    Calls Try.prog 63 #[.slice (some ⟨g, 0, none⟩) n cap, .slice a n ca] w fun e w' => e = .returned (.bool true) ∧ Below w.heap.size w w' := by
  obtain ⟨r1, r2, r3, r4⟩ := hL.room
  unfold maxLen at r2
  have HX := Lib.hid hx
  have HL := Lib.hid hL
  have HS : Hid (sameX n n ex ex = true) := by simp [Hid, sameX, eqTo_iff]
  have HQ := Lib.hid eql_ext
  clear hx hL
  go_enter Try.func63, Try.ntmps63
  go_wp2_with fail
  (with_reducible refine (SameExtents_any _ _ _ _ _ _ ex ex _ HL.out.exts HX.out (by omega) (by omega)).mono ?_); rintro e w2 ⟨rfl, hb2⟩
  rw [HS.out]
  obtain ⟨m1, m2, m3, m4⟩ := (HL.out.below hb2).marks
  have HB2 := Lib.hid hb2
  clear hb2
  have q1 := eql_ext 77777 0 77777 0
  go_wp2_with fail
  go_ret
  exact ⟨rfl, HB2.out⟩
end Go.Proofs.Ytjaljnpgomfmfaa.inode
