/-
  Proved: which inodes may be, by inode.may and by the statement's own may: both say the same, for every inode. Conditions: as each theorem says.
-/
import Derived.Test.YtjaljnpgomfmfaaHeap
import Derived.Test.YtjaljnpgomfmfaaNumLaws
import Derived.Test.YtjaljnpgomfmfaaBytes
namespace Go.Proofs.Ytjaljnpgomfmfaa.inode
open Go.RowKit
open heap
open num (Num_any list_len)
set_option linter.unusedVariables false

abbrev Ext := Int × Int
/-- Extents in memory: two numbers each. -/
def ExtsIn (w : World) (a : Option Addr) (len : Nat) (ex : Nat → Ext) : Prop :=
  0 < len → ∃ b off, a = some ⟨b, off, none⟩ ∧ b < w.heap.size ∧ ∀ i, i < len →
    w.cell? ⟨b, off + i * 2, none⟩ = some (.int .i64 (ex i).1) ∧ w.cell? ⟨b, off + i * 2 + 1, none⟩ = some (.int .i64 (ex i).2)
theorem ExtsIn.below {w w' : World} {a : Option Addr} {len : Nat} {ex : Nat → Ext} (h : ExtsIn w a len ex) (hb : Below w.heap.size w w') : ExtsIn w' a len ex := by
  intro hl
  obtain ⟨b, off, ha, hlt, hc⟩ := h hl
  refine ⟨b, off, ha, Nat.lt_of_lt_of_le hlt hb.size, fun i hi => ?_⟩
  obtain ⟨c0, c1⟩ := hc i hi
  exact ⟨by rw [hb.cell (p := ⟨b, off + i * 2, none⟩) hlt, c0], by rw [hb.cell (p := ⟨b, off + i * 2 + 1, none⟩) hlt, c1]⟩
theorem ExtsIn.turned {w w' : World} {a : Option Addr} {len : Nat} {ex : Nat → Ext} (h : ExtsIn w a len ex) {S : List Nat} (ht : Turned S w w') (hS : ∀ b off, a = some ⟨b, off, none⟩ → b ∉ S) : ExtsIn w' a len ex := by
  intro hl
  obtain ⟨b, off, ha, hlt, hc⟩ := h hl
  refine ⟨b, off, ha, Nat.lt_of_lt_of_le hlt ht.size, fun i hi => ?_⟩
  obtain ⟨c0, c1⟩ := hc i hi
  exact ⟨ht.cell c0 (hS b off ha), ht.cell c1 (hS b off ha)⟩
abbrev inoV (kind size : Int) (a : Option Addr) (len cap : Nat) : Value := .agg #[.int .i64 kind, .int .i64 size, .slice a len cap]

def headBad (kind size : Int) (len : Nat) : Prop := (kind ≠ 1 ∧ kind ≠ 2) ∨ size < 0 ∨ 65536 < size ∨ 14 < len
def extBad (e : Ext) : Prop := e.1 < 0 ∨ 65536 ≤ e.1 ∨ e.2 < 1 ∨ 65536 ≤ e.2
instance (e : Ext) : Decidable (extBad e) := by unfold extBad; infer_instance
instance (kind size : Int) (len : Nat) : Decidable (headBad kind size len) := by unfold headBad; infer_instance
def okTo (ex : Nat → Ext) : Nat → Bool
  | 0 => true
  | k + 1 => okTo ex k && !decide (extBad (ex k))
def sumTo (ex : Nat → Ext) : Nat → Int
  | 0 => 0
  | k + 1 => sumTo ex k + (ex k).2
theorem sumTo_bd (ex : Nat → Ext) (k : Nat) (h : okTo ex k = true) : (k : Int) ≤ sumTo ex k ∧ sumTo ex k ≤ 65536 * k := by
  induction k with
  | zero => simp [sumTo]
  | succ k ih =>
    simp only [okTo, Bool.and_eq_true, Bool.not_eq_true', decide_eq_false_iff_not] at h
    have := ih h.1
    have h2 := h.2
    unfold extBad at h2
    rw [sumTo]
    omega
theorem okTo_le {ex : Nat → Ext} {k n : Nat} (h : okTo ex n = true) (hk : k ≤ n) : okTo ex k = true := by
  induction n with
  | zero => obtain rfl : k = 0 := by omega
            exact h
  | succ n ih =>
    rcases Nat.lt_or_ge k (n + 1) with h1 | h1
    · simp only [okTo, Bool.and_eq_true] at h
      exact ih h.1 (by omega)
    · obtain rfl : k = n + 1 := by omega
      exact h
theorem okTo_no {ex : Nat → Ext} {k n : Nat} (h : extBad (ex k)) (hk : k < n) : okTo ex n = false := by
  cases hc : okTo ex n with
  | false => rfl
  | true =>
    have := okTo_le hc (show k + 1 ≤ n by omega)
    simp [okTo, h] at this
/-- May an inode be? -/
def mayI (kind size : Int) (len : Nat) (ex : Nat → Ext) : Bool := !decide (headBad kind size len) && okTo ex len && decide (sumTo ex len = (size + 255) / 256)
theorem ret_bool {a b : Bool} (h : a = b) : Ending.returned (.bool a) = .returned (.bool b) := by rw [h]

set_option maxRecDepth 100000 in
theorem may_head (kind size : Int) (a : Option Addr) (len cap : Nat) (ex : Nat → Ext) (w : World) (hm : len ≤ 9223372036854775807) (h : headBad kind size len) :
    Calls Try.prog 77 #[inoV kind size a len cap] w fun e w' => e = .returned (.bool (mayI kind size len ex)) ∧ Below w.heap.size w w' := by
  have HM : Hid (mayI kind size len ex = false) := by simp [Hid, mayI, h]
  have h' : (kind ≠ 1 ∧ kind ≠ 2) ∨ ((kind = 1 ∨ kind = 2) ∧ (size < 0 ∨ (0 ≤ size ∧ 65536 < size) ∨ (0 ≤ size ∧ size ≤ 65536 ∧ 14 < len))) := by
    unfold headBad at h; omega
  clear h
  rcases h' with ⟨h1, h2⟩ | ⟨h1, h2 | ⟨h2, h3⟩ | ⟨h2, h3, h4⟩⟩
  · have b1 : (kind != 1) = true := by rw [bne_iff_ne]; exact h1
    have b2 : (kind != 2) = true := by rw [bne_iff_ne]; exact h2
    clear h1 h2
    go_enter Try.func77, Try.ntmps77
    go_wp2
    go_ret
    exact ⟨ret_bool HM.out.symm, (Below.refl _ _).alloc (Nat.le_refl _) _⟩
  all_goals
    have hk : (kind != 1) = false ∨ ((kind != 1) = true ∧ (kind != 2) = false) := by
      rcases h1 with rfl | rfl
      · exact .inl rfl
      · exact .inr ⟨rfl, rfl⟩
    clear h1
    try have d1 : decide (size < 0) = true := by simp; omega
    try have d1 : decide (size < 0) = false := by simp; omega
    try have d2 : decide (65536 < size) = true := by simp; omega
    try have d2 : decide (65536 < size) = false := by simp; omega
    try have d3 : decide (14 < (len : Int)) = true := by simp; omega
    rcases hk with b1 | ⟨b1, b2⟩
    all_goals
      go_enter Try.func77, Try.ntmps77
      go_wp2
      go_ret
      exact ⟨ret_bool HM.out.symm, (Below.refl _ _).alloc (Nat.le_refl _) _⟩
set_option maxRecDepth 100000 in
set_option maxHeartbeats 1600000 in
theorem may_in (kind size : Int) (a : Option Addr) (len cap : Nat) (ex : Nat → Ext) (w : World) (hx : ExtsIn w a len ex) (h : ¬ headBad kind size len) :
    Calls Try.prog 77 #[inoV kind size a len cap] w fun e w' => e = .returned (.bool (mayI kind size len ex)) ∧ Below w.heap.size w w' := by
  have HNO : Hid (okTo ex len = false → mayI kind size len ex = false) := fun h2 => by simp [mayI, h2]
  have HYES : Hid (okTo ex len = true → (sumTo ex len == (size + 255) / 256) = mayI kind size len ex) := fun h2 => by
    rw [mayI, h2]; simp only [h, decide_false, Bool.not_false, Bool.true_and]; rfl
  have h' : (kind = 1 ∨ kind = 2) ∧ 0 ≤ size ∧ size ≤ 65536 ∧ len ≤ 14 := by unfold headBad at h; omega
  obtain ⟨h1, h2, h3, h4⟩ := h'
  have hk : (kind != 1) = false ∨ ((kind != 1) = true ∧ (kind != 2) = false) := by
    rcases h1 with rfl | rfl
    · exact .inl rfl
    · exact .inr ⟨rfl, rfl⟩
  have d1 : decide (size < 0) = false := by simp; omega
  have d2 : decide (65536 < size) = false := by simp; omega
  have d3 : decide (14 < (len : Int)) = false := by simp; omega
  have HX := Lib.hid hx
  clear h h1 hx
  have q0 : (w.alloc (.cells #[.int .i64 kind, .int .i64 size, .slice a len cap] 73)).cell? ⟨w.heap.size, 0, none⟩ = some (.int .i64 kind) := by simp
  have q1 : (w.alloc (.cells #[.int .i64 kind, .int .i64 size, .slice a len cap] 73)).cell? ⟨w.heap.size, 1, none⟩ = some (.int .i64 size) := by simp
  have q2 : (w.alloc (.cells #[.int .i64 kind, .int .i64 size, .slice a len cap] 73)).cell? ⟨w.heap.size, 2, none⟩ = some (.slice a len cap) := by simp
  have hba : Below w.heap.size w (w.alloc (.cells #[.int .i64 kind, .int .i64 size, .slice a len cap] 73)) := (Below.refl _ _).alloc (Nat.le_refl _) _
  have HBA := Lib.hid hba
  have hsz : (w.alloc (.cells #[.int .i64 kind, .int .i64 size, .slice a len cap] 73)).heap.size = w.heap.size + 1 := by simp
  have HSZ := Lib.hid hsz
  clear hba hsz
  rcases hk with b1 | ⟨b1, b2⟩
  all_goals
    go_enter Try.func77, Try.ntmps77
    go_wp2_with fail
    generalize hW0 : w.alloc (.cells #[.int .i64 kind, .int .i64 size, .slice a len cap] 73) = W0 at *
    clear hW0
    go_loopw [3, 33] (fun bl i wr => ∃ k : Nat, k ≤ len ∧ i = .int .i64 k ∧ bl = .int .i64 (sumTo ex k) ∧ Below W0.heap.size W0 wr ∧ Hid (okTo ex k = true)) (fun _ i _ => len - (intOf i).toNat)
    case atStart => exact ⟨0, Nat.zero_le _, rfl, rfl, Below.refl _ _, rfl⟩
    case round =>
      obtain ⟨k, hk, rfl, rfl, hb, HOK⟩ := hrel
      have hsum := sumTo_bd ex k HOK.out
      have r1 : wr.cell? ⟨w.heap.size, 1, none⟩ = some (.int .i64 size) := by rw [hb.cell (p := ⟨w.heap.size, 1, none⟩) (show w.heap.size < W0.heap.size by rw [HSZ.out]; omega), q1]
      have r2 : wr.cell? ⟨w.heap.size, 2, none⟩ = some (.slice a len cap) := by rw [hb.cell (p := ⟨w.heap.size, 2, none⟩) (show w.heap.size < W0.heap.size by rw [HSZ.out]; omega), q2]
      have HBB : Hid (Below w.heap.size w wr) := HBA.out.trans (hb.mono HBA.out.size)
      by_cases hlt : k < len
      · obtain ⟨b, off, rfl, hbw, hcells⟩ := HX.out (by omega)
        obtain ⟨c0, c1⟩ := hcells k hlt
        rw [← HBB.out.cell (p := ⟨b, off + k * 2, none⟩) hbw] at c0
        rw [← HBB.out.cell (p := ⟨b, off + k * 2 + 1, none⟩) hbw] at c1
        have HB := Lib.hid hb
        clear hcells hb q0 q1 q2
        have HSS : Hid (sumTo ex (k + 1) = sumTo ex k + (ex k).2) := rfl
        have HOS : Hid (¬ extBad (ex k) → okTo ex (k + 1) = true) := fun h => by rw [okTo, HOK.out]; simp [h]
        have HBD : Hid (extBad (ex k) → okTo ex len = false) := fun h => okTo_no h hlt
        have HEX : Hid (extBad (ex k) ↔ (ex k).1 < 0 ∨ 65536 ≤ (ex k).1 ∨ (ex k).2 < 1 ∨ 65536 ≤ (ex k).2) := Iff.rfl
        generalize (ex k).1 = ef at *
        generalize (ex k).2 = el at *
        generalize sumTo ex k = sm at *
        have hcase : ef < 0 ∨ (0 ≤ ef ∧ 65536 ≤ ef) ∨ (0 ≤ ef ∧ ef < 65536 ∧ el < 1) ∨ (0 ≤ ef ∧ ef < 65536 ∧ 1 ≤ el ∧ 65536 ≤ el) ∨ (0 ≤ ef ∧ ef < 65536 ∧ 1 ≤ el ∧ el < 65536) := by omega
        rcases hcase with g1 | ⟨g1, g2⟩ | ⟨g1, g2, g3⟩ | ⟨g1, g2, g3, g4⟩ | ⟨g1, g2, g3, g4⟩
        iterate 4
          · have HN := Lib.hid (HNO.out (HBD.out (HEX.out.2 (by omega))))
            go_wp2_with fail
            go_ret
            exact ⟨ret_bool HN.out.symm, HBB.out.alloc HBB.out.size _⟩
        · have HN := Lib.hid (HOS.out (fun h => by have := HEX.out.1 h; omega))
          go_wp2_with fail
          go_roundw
          case rel => exact ⟨k + 1, by omega, by go_num, by rw [HSS.out], HB.out.alloc HB.out.size _, HN.out⟩
          case measure => simp [intOf]; omega
      · obtain rfl : k = len := by omega
        have HY := Lib.hid (HYES.out HOK.out)
        have hd : size + 256 - 1 = size + 255 := by omega
        clear hb q0 q1 q2
        generalize sumTo ex k = sm at *
        go_wp2_with fail
        go_ret
        exact ⟨ret_bool HY.out, HBB.out⟩
theorem may_any (kind size : Int) (a : Option Addr) (len cap : Nat) (ex : Nat → Ext) (w : World) (hx : ExtsIn w a len ex) (hm : len ≤ 9223372036854775807) :
    Calls Try.prog 77 #[inoV kind size a len cap] w fun e w' => e = .returned (.bool (mayI kind size len ex)) ∧ Below w.heap.size w w' := by
  by_cases h : headBad kind size len
  · exact may_head kind size a len cap ex w hm h
  · exact may_in kind size a len cap ex w hx h

set_option maxRecDepth 100000 in
theorem rmay_head (kind size : Int) (a : Option Addr) (len cap : Nat) (ex : Nat → Ext) (w : World) (hm : len ≤ 9223372036854775807) (h : headBad kind size len) :
    Calls Try.prog 64 #[inoV kind size a len cap] w fun e w' => e = .returned (.bool (mayI kind size len ex)) ∧ Below w.heap.size w w' := by
  have HM : Hid (mayI kind size len ex = false) := by simp [Hid, mayI, h]
  have h' : (kind ≠ 1 ∧ kind ≠ 2) ∨ ((kind = 1 ∨ kind = 2) ∧ (size < 0 ∨ (0 ≤ size ∧ 65536 < size) ∨ (0 ≤ size ∧ size ≤ 65536 ∧ 14 < len))) := by
    unfold headBad at h; omega
  clear h
  rcases h' with ⟨h1, h2⟩ | ⟨h1, h2 | ⟨h2, h3⟩ | ⟨h2, h3, h4⟩⟩
  · have b1 : (kind != 1) = true := by rw [bne_iff_ne]; exact h1
    have b2 : (kind != 2) = true := by rw [bne_iff_ne]; exact h2
    clear h1 h2
    go_enter Try.func64, Try.ntmps64
    go_wp2
    go_ret
    exact ⟨ret_bool HM.out.symm, (Below.refl _ _).alloc (Nat.le_refl _) _⟩
  all_goals
    have hk : (kind != 1) = false ∨ ((kind != 1) = true ∧ (kind != 2) = false) := by
      rcases h1 with rfl | rfl
      · exact .inl rfl
      · exact .inr ⟨rfl, rfl⟩
    clear h1
    try have d1 : decide (size < 0) = true := by simp; omega
    try have d1 : decide (size < 0) = false := by simp; omega
    try have d2 : decide (65536 < size) = true := by simp; omega
    try have d2 : decide (65536 < size) = false := by simp; omega
    try have d3 : decide (14 < (len : Int)) = true := by simp; omega
    rcases hk with b1 | ⟨b1, b2⟩
    all_goals
      go_enter Try.func64, Try.ntmps64
      go_wp2
      go_ret
      exact ⟨ret_bool HM.out.symm, (Below.refl _ _).alloc (Nat.le_refl _) _⟩
set_option maxRecDepth 100000 in
set_option maxHeartbeats 1600000 in
theorem rmay_in (kind size : Int) (a : Option Addr) (len cap : Nat) (ex : Nat → Ext) (w : World) (hx : ExtsIn w a len ex) (h : ¬ headBad kind size len) :
    Calls Try.prog 64 #[inoV kind size a len cap] w fun e w' => e = .returned (.bool (mayI kind size len ex)) ∧ Below w.heap.size w w' := by
  have HNO : Hid (okTo ex len = false → mayI kind size len ex = false) := fun h2 => by simp [mayI, h2]
  have HYES : Hid (okTo ex len = true → (sumTo ex len == (size + 255) / 256) = mayI kind size len ex) := fun h2 => by
    rw [mayI, h2]; simp only [h, decide_false, Bool.not_false, Bool.true_and]; rfl
  have h' : (kind = 1 ∨ kind = 2) ∧ 0 ≤ size ∧ size ≤ 65536 ∧ len ≤ 14 := by unfold headBad at h; omega
  obtain ⟨h1, h2, h3, h4⟩ := h'
  have hk : (kind != 1) = false ∨ ((kind != 1) = true ∧ (kind != 2) = false) := by
    rcases h1 with rfl | rfl
    · exact .inl rfl
    · exact .inr ⟨rfl, rfl⟩
  have d1 : decide (size < 0) = false := by simp; omega
  have d2 : decide (65536 < size) = false := by simp; omega
  have d3 : decide (14 < (len : Int)) = false := by simp; omega
  have HX := Lib.hid hx
  clear h h1 hx
  have q0 : (w.alloc (.cells #[.int .i64 kind, .int .i64 size, .slice a len cap] 73)).cell? ⟨w.heap.size, 0, none⟩ = some (.int .i64 kind) := by simp
  have q1 : (w.alloc (.cells #[.int .i64 kind, .int .i64 size, .slice a len cap] 73)).cell? ⟨w.heap.size, 1, none⟩ = some (.int .i64 size) := by simp
  have q2 : (w.alloc (.cells #[.int .i64 kind, .int .i64 size, .slice a len cap] 73)).cell? ⟨w.heap.size, 2, none⟩ = some (.slice a len cap) := by simp
  have hba : Below w.heap.size w (w.alloc (.cells #[.int .i64 kind, .int .i64 size, .slice a len cap] 73)) := (Below.refl _ _).alloc (Nat.le_refl _) _
  have HBA := Lib.hid hba
  have hsz : (w.alloc (.cells #[.int .i64 kind, .int .i64 size, .slice a len cap] 73)).heap.size = w.heap.size + 1 := by simp
  have HSZ := Lib.hid hsz
  clear hba hsz
  rcases hk with b1 | ⟨b1, b2⟩
  all_goals
    go_enter Try.func64, Try.ntmps64
    go_wp2_with fail
    generalize hW0 : w.alloc (.cells #[.int .i64 kind, .int .i64 size, .slice a len cap] 73) = W0 at *
    clear hW0
    go_loopw [3, 4] (fun bl i wr => ∃ k : Nat, k ≤ len ∧ i = .int .i64 k ∧ bl = .int .i64 (sumTo ex k) ∧ Below W0.heap.size W0 wr ∧ Hid (okTo ex k = true)) (fun _ i _ => len - (intOf i).toNat)
    case atStart => exact ⟨0, Nat.zero_le _, rfl, rfl, Below.refl _ _, rfl⟩
    case round =>
      obtain ⟨k, hk, rfl, rfl, hb, HOK⟩ := hrel
      have hsum := sumTo_bd ex k HOK.out
      have r1 : wr.cell? ⟨w.heap.size, 1, none⟩ = some (.int .i64 size) := by rw [hb.cell (p := ⟨w.heap.size, 1, none⟩) (show w.heap.size < W0.heap.size by rw [HSZ.out]; omega), q1]
      have r2 : wr.cell? ⟨w.heap.size, 2, none⟩ = some (.slice a len cap) := by rw [hb.cell (p := ⟨w.heap.size, 2, none⟩) (show w.heap.size < W0.heap.size by rw [HSZ.out]; omega), q2]
      have HBB : Hid (Below w.heap.size w wr) := HBA.out.trans (hb.mono HBA.out.size)
      by_cases hlt : k < len
      · obtain ⟨b, off, rfl, hbw, hcells⟩ := HX.out (by omega)
        obtain ⟨c0, c1⟩ := hcells k hlt
        rw [← HBB.out.cell (p := ⟨b, off + k * 2, none⟩) hbw] at c0
        rw [← HBB.out.cell (p := ⟨b, off + k * 2 + 1, none⟩) hbw] at c1
        have HB := Lib.hid hb
        clear hcells hb q0 q1 q2
        have HSS : Hid (sumTo ex (k + 1) = sumTo ex k + (ex k).2) := rfl
        have HOS : Hid (¬ extBad (ex k) → okTo ex (k + 1) = true) := fun h => by rw [okTo, HOK.out]; simp [h]
        have HBD : Hid (extBad (ex k) → okTo ex len = false) := fun h => okTo_no h hlt
        have HEX : Hid (extBad (ex k) ↔ (ex k).1 < 0 ∨ 65536 ≤ (ex k).1 ∨ (ex k).2 < 1 ∨ 65536 ≤ (ex k).2) := Iff.rfl
        generalize (ex k).1 = ef at *
        generalize (ex k).2 = el at *
        generalize sumTo ex k = sm at *
        have hcase : ef < 0 ∨ (0 ≤ ef ∧ 65536 ≤ ef) ∨ (0 ≤ ef ∧ ef < 65536 ∧ el < 1) ∨ (0 ≤ ef ∧ ef < 65536 ∧ 1 ≤ el ∧ 65536 ≤ el) ∨ (0 ≤ ef ∧ ef < 65536 ∧ 1 ≤ el ∧ el < 65536) := by omega
        rcases hcase with g1 | ⟨g1, g2⟩ | ⟨g1, g2, g3⟩ | ⟨g1, g2, g3, g4⟩ | ⟨g1, g2, g3, g4⟩
        iterate 4
          · have HN := Lib.hid (HNO.out (HBD.out (HEX.out.2 (by omega))))
            go_wp2_with fail
            go_ret
            exact ⟨ret_bool HN.out.symm, HBB.out.alloc HBB.out.size _⟩
        · have HN := Lib.hid (HOS.out (fun h => by have := HEX.out.1 h; omega))
          go_wp2_with fail
          go_roundw
          case rel => exact ⟨k + 1, by omega, by go_num, by rw [HSS.out], HB.out.alloc HB.out.size _, HN.out⟩
          case measure => simp [intOf]; omega
      · obtain rfl : k = len := by omega
        have HY := Lib.hid (HYES.out HOK.out)
        have hd : size + 256 - 1 = size + 255 := by omega
        clear hb q0 q1 q2
        generalize sumTo ex k = sm at *
        go_wp2_with fail
        go_ret
        exact ⟨ret_bool HY.out, HBB.out⟩
theorem rmay_any (kind size : Int) (a : Option Addr) (len cap : Nat) (ex : Nat → Ext) (w : World) (hx : ExtsIn w a len ex) (hm : len ≤ 9223372036854775807) :
    Calls Try.prog 64 #[inoV kind size a len cap] w fun e w' => e = .returned (.bool (mayI kind size len ex)) ∧ Below w.heap.size w w' := by
  by_cases h : headBad kind size len
  · exact rmay_head kind size a len cap ex w hm h
  · exact rmay_in kind size a len cap ex w hx h
end Go.Proofs.Ytjaljnpgomfmfaa.inode
