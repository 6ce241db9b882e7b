/-
  Proved: what the statement's own laid gives: the same bytes as inode.Encode. Conditions: as each theorem says.
-/
import Derived.Test.YtjaljnpgomfmfaaInode3
import Derived.Test.YtjaljnpgomfmfaaReg
namespace Go.Proofs.Ytjaljnpgomfmfaa.inode
open Go.RowKit
open heap
open num (Num_any list_len leS leE leGood U64)
set_option linter.unusedVariables false

theorem le1 (x : Nat) (h : x < 256) : le x 1 = [UInt8.ofNat x] := by
  have e : ((x : Int) % 256).toNat = x := by omega
  simp [le, num.bytesTo, num.byteAt, List.range_succ, e]
theorem le2z : le 0 2 = [0, 0] := by decide
def head4 (kind : Int) (len : Nat) : List UInt8 := (le kind.toNat 1 ++ le len 1) ++ le 0 2
theorem cv4 (W : World) (g : Nat) (kind : Int) (len : Nat) (k0 : 0 ≤ kind) (k1 : kind < 256) (hl : len < 256) (h : W.heap[g]? = some (.cells #[.int .u8 kind, .int .u8 len, .int .u8 0, .int .u8 0] 5 (0, 0))) :
    (convert 83 9 (.slice (some ⟨g, 0, none⟩) 4 4)).run Try.prog W = .ok (.string ⟨(head4 kind len).toArray⟩) W := by
  obtain ⟨n, rfl⟩ := Int.eq_ofNat_of_zero_le k0
  have e : head4 (n : Int) len = [UInt8.ofNat n, UInt8.ofNat len, 0, 0] := by
    rw [head4, Int.toNat_natCast, le1 _ (by omega), le1 _ hl, le2z]; rfl
  rw [e]
  have hr : row.RowIs W g [UInt8.ofNat n, UInt8.ofNat len, 0, 0] := by
    refine ⟨_, 0, 0, h, by simp, by simp, fun i hi => ?_⟩
    have hn : n % 256 = n := by omega
    have hm : len % 256 = len := by omega
    match i, hi with
    | 0, _ => simp [row.byteV, hn]
    | 1, _ => simp [row.byteV, hm]
    | 2, _ => simp [row.byteV]
    | 3, _ => simp [row.byteV]
  exact hr.conv 4
def OnlyN (R : Act → World → Prop) : Exit → Act → World → Prop
  | .normal, a, w => R a w
  | _, _, _ => False
theorem join_post {Pg : Program} {c : Code} {Q : Exit → Act → World → Prop} {a : Act} {w : World} (R : Act → World → Prop) (h : c.wp Pg (OnlyN R) a w) (k : ∀ a' w', R a' w' → Q .normal a' w') : c.wp Pg Q a w :=
  Code.wp_mono (fun e a' w' h => by cases e <;> first | exact k a' w' h | exact (h : False).elim) h
def strOf : Value → ByteArray
  | .string s => s
  | _ => ⟨#[]⟩
theorem num2 (w : World) (x : Int) (hx0 : 0 ≤ x) (hx : x < 65536) : Calls Try.prog 82 #[.int .i64 x, .int .i64 2] w fun e w' => e = .returned (.string ⟨(le x.toNat 2).toArray⟩) ∧ Below w.heap.size w w' :=
  num_any w x 2 (by omega) (by omega) hx0 (by show _ < 65536; omega) (by omega)
theorem num4 (w : World) (x : Int) (hx0 : 0 ≤ x) (hx : x < 65537) : Calls Try.prog 82 #[.int .i64 x, .int .i64 4] w fun e w' => e = .returned (.string ⟨(le x.toNat 4).toArray⟩) ∧ Below w.heap.size w w' :=
  num_any w x 4 (by omega) (by omega) hx0 (by show _ < 4294967296; omega) (by omega)
theorem keepB3 {w w' : World} {B : Nat} {v0 v1 v2 : Value} (h : w.cell? ⟨B, 0, none⟩ = some v0 ∧ w.cell? ⟨B, 1, none⟩ = some v1 ∧ w.cell? ⟨B, 2, none⟩ = some v2) (ht : Below w.heap.size w w') (hn : B < w.heap.size) :
    w'.cell? ⟨B, 0, none⟩ = some v0 ∧ w'.cell? ⟨B, 1, none⟩ = some v1 ∧ w'.cell? ⟨B, 2, none⟩ = some v2 :=
  ⟨by rw [ht.cell (p := ⟨B, 0, none⟩) hn]; exact h.1, by rw [ht.cell (p := ⟨B, 1, none⟩) hn]; exact h.2.1, by rw [ht.cell (p := ⟨B, 2, none⟩) hn]; exact h.2.2⟩
set_option maxRecDepth 100000 in
set_option maxHeartbeats 1600000 in
theorem laid_yes (kind size : Int) (a : Option Addr) (len cap : Nat) (ex : Nat → Ext) (w : World) (hx : ExtsIn w a len ex) (h : mayI kind size len ex = true) :
    Calls Try.prog 67 #[inoV kind size a len cap] w fun e w' => e = .returned (.string ⟨(inoB kind size len ex).toArray⟩) ∧ Below w.heap.size w w' := by
  have h' : 0 ≤ kind ∧ kind < 256 ∧ 0 ≤ size ∧ size < 65537 ∧ len ≤ 14 ∧ okTo ex len = true := by
    simp only [mayI, Bool.and_eq_true, Bool.not_eq_true', decide_eq_false_iff_not] at h
    obtain ⟨⟨h1, h2⟩, -⟩ := h
    unfold headBad at h1
    refine ⟨?_, ?_, ?_, ?_, ?_, h2⟩ <;> omega
  obtain ⟨k0, k1, s0, s1, l14, hok⟩ := h'
  have HOK := Lib.hid hok
  have HX := Lib.hid hx
  have HH := Lib.hid h
  clear hx h hok
  have hba : Below w.heap.size w (w.alloc (.cells #[.int .i64 kind, .int .i64 size, .slice a len cap] 73)) := (Below.refl _ _).alloc (Nat.le_refl _) _
  have HBA := Lib.hid hba
  have hNEW := blk_new w (.cells #[.int .i64 kind, .int .i64 size, .slice a len cap] 73 (0, 0))
  clear hba
  have q0 : (w.alloc (.cells #[.int .i64 kind, .int .i64 size, .slice a len cap] 73)).cell? ⟨w.heap.size, 0, none⟩ = some (.int .i64 kind) := by rw [blk_cell hNEW]; rfl
  have q1 : (w.alloc (.cells #[.int .i64 kind, .int .i64 size, .slice a len cap] 73)).cell? ⟨w.heap.size, 1, none⟩ = some (.int .i64 size) := by rw [blk_cell hNEW]; rfl
  have q2 : (w.alloc (.cells #[.int .i64 kind, .int .i64 size, .slice a len cap] 73)).cell? ⟨w.heap.size, 2, none⟩ = some (.slice a len cap) := by rw [blk_cell hNEW]; rfl
  have hlt := blk_lt hNEW
  clear hNEW
  have hl0 : (0 : Int) ≤ (len : Int) := by omega
  have hl1 : (len : Int) < 256 := by omega
  have wk : IntKind.u8.wrap kind = kind := by rw [IntKind.wrap_u8]; omega
  have wl : IntKind.u8.wrap (len : Int) = (len : Int) := by rw [IntKind.wrap_u8]; omega
  go_enter Try.func67, Try.ntmps67
  go_wp2_with fail
  generalize hW0 : w.alloc (.cells #[.int .i64 kind, .int .i64 size, .slice a len cap] 73) = W0 at *
  clear hW0
  have HCV : ∀ W : World, ∀ g : Nat, W.heap[g]? = some (.cells #[.int .u8 kind, .int .u8 (len : Int), .int .u8 0, .int .u8 0] 5 (0, 0)) → (convert 83 9 (.slice (some ⟨g, 0, none⟩) 4 4)).run Try.prog W = .ok (.string ⟨(head4 kind len).toArray⟩) W := fun W g h => cv4 W g kind len k0 k1 (by omega) h
  have hcv1 := HCV _ _ (blk_new W0.drew (.cells #[.int .u8 kind, .int .u8 (len : Int), .int .u8 0, .int .u8 0] 5 (0, 0)))
  have hs4 : (⟨(le size.toNat 4).toArray⟩ : ByteArray).size = 4 := by rw [str_size, le_len]
  have hs0 : (⟨(head4 kind len).toArray⟩ : ByteArray).size = 4 := by rw [str_size]; simp [head4, le_len]
  have HJ : Hid ((⟨(head4 kind len).toArray⟩ : ByteArray) ++ ⟨(le size.toNat 4).toArray⟩ = ⟨(bodyB kind size len ex 0).toArray⟩) := join _ _
  have HN4 : Hid (∀ w : World, Calls Try.prog 82 #[.int .i64 size, .int .i64 4] w fun e w' => e = .returned (.string ⟨(le size.toNat 4).toArray⟩) ∧ Below w.heap.size w w') := fun w => num4 w size s0 s1
  have HCH := Lib.hid HCV
  clear HCV
  generalize (⟨(head4 kind len).toArray⟩ : ByteArray) = T1 at *
  generalize (⟨(le size.toNat 4).toArray⟩ : ByteArray) = T2 at *
  refine reg.region_each (by kernel_rfl) reg.Ext (fun ri v w' => match ri with
      | 0 => v = .pointer (some ⟨w.heap.size, 0, none⟩)
      | 1 => v = .int .i64 kind
      | 2 => v = .int .u8 kind
      | 3 => v = .pointer (some ⟨w.heap.size, 2, none⟩)
      | 4 => v = .slice a len cap
      | 5 => v = .int .i64 len
      | 6 => v = .int .u8 len
      | 7 => ∃ g, v = .slice (some ⟨g, 0, none⟩) 4 4 ∧ w'.heap[g]? = some (.cells #[.int .u8 kind, .int .u8 (len : Int), .int .u8 0, .int .u8 0] 5 (0, 0))
      | 8 => v = .string T1
      | 9 => v = .pointer (some ⟨w.heap.size, 1, none⟩)
      | 10 => v = .int .i64 size
      | 11 => v = .string T2
      | 12 => v = .string (T1 ++ T2)
      | 13 => v = .string (T1 ++ T2)
      | _ => True) reg.Ext.refl reg.Ext.trans ?mono1 (by kernel_rfl) ?step1 ?fin1
  case mono1 =>
    intro i v w1 w2 h hx
    rcases i with _|_|_|_|_|_|_|_|_|_|_|_|_|_|i
    · exact h
    · exact h
    · exact h
    · exact h
    · exact h
    · exact h
    · exact h
    · (obtain ⟨g, h1, h2⟩ := h; exact ⟨g, h1, hx.blk h2⟩)
    · exact h
    · exact h
    · exact h
    · exact h
    · exact h
    · exact h
    · trivial
  case step1 =>
    refine ⟨?_, ?_, ?_, ?_, ?_, ?_, ?_, ?_, ?_, ?_, ?_, ?_, ?_, ?_, trivial⟩
    · -- 0: slot 5 := Op.fieldAddr 73 t1 0
      intro ra w' hx hs
      have s1 : ra.eval (.tmp 1) = .pointer (some ⟨w.heap.size, 0, none⟩) := hs.1
      clear hs
      have c0 := hx.cell (a := ⟨w.heap.size, 0, none⟩) q0
      have c1 := hx.cell (a := ⟨w.heap.size, 1, none⟩) q1
      have c2 := hx.cell (a := ⟨w.heap.size, 2, none⟩) q2
      change Oper.wp _ _ ra w' _ _
      refine reg.wp_value (v := .pointer (some ⟨w.heap.size, 0, none⟩)) (w' := w') ?_ ⟨_, rfl, reg.Ext.refl _, rfl⟩
      intro ρ rc rf rg re
      rw [re] at s1
      simp [execOp, go_sem, rc, rf, rg, s1] <;> omega
    · -- 1: slot 6 := Op.load 3 t5
      intro ra w' hx hs
      have s5 : ra.eval (.tmp 5) = .pointer (some ⟨w.heap.size, 0, none⟩) := hs.1
      clear hs
      have c0 := hx.cell (a := ⟨w.heap.size, 0, none⟩) q0
      have c1 := hx.cell (a := ⟨w.heap.size, 1, none⟩) q1
      have c2 := hx.cell (a := ⟨w.heap.size, 2, none⟩) q2
      change Oper.wp _ _ ra w' _ _
      refine reg.wp_value (v := .int .i64 kind) (w' := w') ?_ ⟨_, rfl, reg.Ext.refl _, rfl⟩
      intro ρ rc rf rg re
      rw [re] at s5
      simp [execOp, go_sem, rc, rf, rg, s5, c0] <;> omega
    · -- 2: slot 7 := Op.convert 3 5 t6
      intro ra w' hx hs
      have s6 : ra.eval (.tmp 6) = .int .i64 kind := hs.1
      clear hs
      have c0 := hx.cell (a := ⟨w.heap.size, 0, none⟩) q0
      have c1 := hx.cell (a := ⟨w.heap.size, 1, none⟩) q1
      have c2 := hx.cell (a := ⟨w.heap.size, 2, none⟩) q2
      change Oper.wp _ _ ra w' _ _
      refine reg.wp_value (v := .int .u8 kind) (w' := w') ?_ ⟨_, rfl, reg.Ext.refl _, rfl⟩
      intro ρ rc rf rg re
      rw [re] at s6
      simp [execOp, go_sem, rc, rf, rg, s6, wk] <;> omega
    · -- 3: slot 8 := Op.fieldAddr 73 t1 2
      intro ra w' hx hs
      have s1 : ra.eval (.tmp 1) = .pointer (some ⟨w.heap.size, 0, none⟩) := hs.1
      clear hs
      have c0 := hx.cell (a := ⟨w.heap.size, 0, none⟩) q0
      have c1 := hx.cell (a := ⟨w.heap.size, 1, none⟩) q1
      have c2 := hx.cell (a := ⟨w.heap.size, 2, none⟩) q2
      change Oper.wp _ _ ra w' _ _
      refine reg.wp_value (v := .pointer (some ⟨w.heap.size, 2, none⟩)) (w' := w') ?_ ⟨_, rfl, reg.Ext.refl _, rfl⟩
      intro ρ rc rf rg re
      rw [re] at s1
      simp [execOp, go_sem, rc, rf, rg, s1] <;> omega
    · -- 4: slot 9 := Op.load 71 t8
      intro ra w' hx hs
      have s8 : ra.eval (.tmp 8) = .pointer (some ⟨w.heap.size, 2, none⟩) := hs.1
      clear hs
      have c0 := hx.cell (a := ⟨w.heap.size, 0, none⟩) q0
      have c1 := hx.cell (a := ⟨w.heap.size, 1, none⟩) q1
      have c2 := hx.cell (a := ⟨w.heap.size, 2, none⟩) q2
      change Oper.wp _ _ ra w' _ _
      refine reg.wp_value (v := .slice a len cap) (w' := w') ?_ ⟨_, rfl, reg.Ext.refl _, rfl⟩
      intro ρ rc rf rg re
      rw [re] at s8
      simp [execOp, go_sem, rc, rf, rg, s8, c2] <;> omega
    · -- 5: slot 10 := Op.call { builtin len, args := #[t9], argTypes := #[71] }
      intro ra w' hx hs
      have s9 : ra.eval (.tmp 9) = .slice a len cap := hs.1
      clear hs
      have c0 := hx.cell (a := ⟨w.heap.size, 0, none⟩) q0
      have c1 := hx.cell (a := ⟨w.heap.size, 1, none⟩) q1
      have c2 := hx.cell (a := ⟨w.heap.size, 2, none⟩) q2
      change Oper.wp _ _ ra w' _ _
      refine reg.wp_value (v := .int .i64 len) (w' := w') ?_ ⟨_, rfl, reg.Ext.refl _, rfl⟩
      intro ρ rc rf rg re
      rw [re] at s9
      simp [execOp, go_sem, rc, rf, rg, s9] <;> omega
    · -- 6: slot 11 := Op.convert 3 5 t10
      intro ra w' hx hs
      have s10 : ra.eval (.tmp 10) = .int .i64 len := hs.1
      clear hs
      have c0 := hx.cell (a := ⟨w.heap.size, 0, none⟩) q0
      have c1 := hx.cell (a := ⟨w.heap.size, 1, none⟩) q1
      have c2 := hx.cell (a := ⟨w.heap.size, 2, none⟩) q2
      change Oper.wp _ _ ra w' _ _
      refine reg.wp_value (v := .int .u8 len) (w' := w') ?_ ⟨_, rfl, reg.Ext.refl _, rfl⟩
      intro ρ rc rf rg re
      rw [re] at s10
      simp [execOp, go_sem, rc, rf, rg, s10, wl] <;> omega
    · -- 7: slot 12 := Op.buildSlice 83 4 #[(0, t7), (1, t11), (2, const (0:u8)), (3, const (0:u8))]
      intro ra w' hx hs
      have s7 : ra.eval (.tmp 7) = .int .u8 kind := hs.1
      have s11 : ra.eval (.tmp 11) = .int .u8 len := hs.2.1
      clear hs
      have c0 := hx.cell (a := ⟨w.heap.size, 0, none⟩) q0
      have c1 := hx.cell (a := ⟨w.heap.size, 1, none⟩) q1
      have c2 := hx.cell (a := ⟨w.heap.size, 2, none⟩) q2
      change Oper.wp _ _ ra w' _ _
      refine reg.wp_value (v := .slice (some ⟨w'.heap.size, 0, none⟩) 4 4) (w' := w'.alloc (.cells #[.int .u8 kind, .int .u8 (len : Int), .int .u8 0, .int .u8 0] 5 (0, 0))) ?_ ⟨_, rfl, (Below.refl _ _).alloc (Nat.le_refl _) _, _, rfl, blk_new _ _⟩
      intro ρ rc rf rg re
      rw [re] at s7 s11
      simp [execOp, go_sem, rc, rf, rg, s7, s11] <;> omega
    · -- 8: slot 13 := Op.convert 83 9 t12
      intro ra w' hx hs
      have s12 : ∃ g, (ra.eval (.tmp 12)) = .slice (some ⟨g, 0, none⟩) 4 4 ∧ w'.heap[g]? = some (.cells #[.int .u8 kind, .int .u8 (len : Int), .int .u8 0, .int .u8 0] 5 (0, 0)) := hs.1
      clear hs
      have c0 := hx.cell (a := ⟨w.heap.size, 0, none⟩) q0
      have c1 := hx.cell (a := ⟨w.heap.size, 1, none⟩) q1
      have c2 := hx.cell (a := ⟨w.heap.size, 2, none⟩) q2
      change Oper.wp _ _ ra w' _ _
      obtain ⟨g, hg, hg2⟩ := s12
      refine reg.wp_value (v := .string T1) (w' := w') ?_ ⟨_, rfl, reg.Ext.refl _, rfl⟩
      intro ρ rc rf rg re
      rw [re] at hg
      simp [execOp, go_sem, hg, HCH.out w' g hg2]
    · -- 9: slot 14 := Op.fieldAddr 73 t1 1
      intro ra w' hx hs
      have s1 : ra.eval (.tmp 1) = .pointer (some ⟨w.heap.size, 0, none⟩) := hs.1
      clear hs
      have c0 := hx.cell (a := ⟨w.heap.size, 0, none⟩) q0
      have c1 := hx.cell (a := ⟨w.heap.size, 1, none⟩) q1
      have c2 := hx.cell (a := ⟨w.heap.size, 2, none⟩) q2
      change Oper.wp _ _ ra w' _ _
      refine reg.wp_value (v := .pointer (some ⟨w.heap.size, 1, none⟩)) (w' := w') ?_ ⟨_, rfl, reg.Ext.refl _, rfl⟩
      intro ρ rc rf rg re
      rw [re] at s1
      simp [execOp, go_sem, rc, rf, rg, s1] <;> omega
    · -- 10: slot 15 := Op.load 3 t14
      intro ra w' hx hs
      have s14 : ra.eval (.tmp 14) = .pointer (some ⟨w.heap.size, 1, none⟩) := hs.1
      clear hs
      have c0 := hx.cell (a := ⟨w.heap.size, 0, none⟩) q0
      have c1 := hx.cell (a := ⟨w.heap.size, 1, none⟩) q1
      have c2 := hx.cell (a := ⟨w.heap.size, 2, none⟩) q2
      change Oper.wp _ _ ra w' _ _
      refine reg.wp_value (v := .int .i64 size) (w' := w') ?_ ⟨_, rfl, reg.Ext.refl _, rfl⟩
      intro ρ rc rf rg re
      rw [re] at s14
      simp [execOp, go_sem, rc, rf, rg, s14, c1] <;> omega
    · -- 11: slot 16 := Op.call { value (Operand.func 82), args := #[t15, const (4:i64)], argTypes := #[3, 3] }
      intro ra w' hx hs
      have s15 : ra.eval (.tmp 15) = .int .i64 size := hs.1
      clear hs
      have c0 := hx.cell (a := ⟨w.heap.size, 0, none⟩) q0
      have c1 := hx.cell (a := ⟨w.heap.size, 1, none⟩) q1
      have c2 := hx.cell (a := ⟨w.heap.size, 2, none⟩) q2
      change Oper.wp _ _ ra w' _ _
      refine reg.wp_call (f := 82) (args := #[.int .i64 size, .int .i64 4]) (w' := w') ?_ ?_
      · intro ρ rc rf rg re
        rw [re] at s15
        simp [execOp, go_sem, rc, rf, rg, s15] <;> omega
      refine (HN4.out _).mono ?_
      rintro e w2 ⟨rfl, hb⟩
      exact ⟨_, rfl, _, rfl, hb, rfl⟩
    · -- 12: slot 17 := Op.binOp BinOp.add 9 t13 t16 9
      intro ra w' hx hs
      have s13 : ra.eval (.tmp 13) = .string T1 := hs.1
      have s16 : ra.eval (.tmp 16) = .string T2 := hs.2.1
      clear hs
      have c0 := hx.cell (a := ⟨w.heap.size, 0, none⟩) q0
      have c1 := hx.cell (a := ⟨w.heap.size, 1, none⟩) q1
      have c2 := hx.cell (a := ⟨w.heap.size, 2, none⟩) q2
      change Oper.wp _ _ ra w' _ _
      refine reg.wp_value (v := .string (T1 ++ T2)) (w' := w') ?_ ⟨_, rfl, reg.Ext.refl _, rfl⟩
      intro ρ rc rf rg re
      rw [re] at s13 s16
      simp [execOp, go_sem, rc, rf, rg, s13, s16, hs0, hs4] <;> omega
    · -- 13: slot 3 := Op.assign t17
      intro ra w' hx hs
      have s17 : ra.eval (.tmp 17) = .string (T1 ++ T2) := hs.1
      clear hs
      have c0 := hx.cell (a := ⟨w.heap.size, 0, none⟩) q0
      have c1 := hx.cell (a := ⟨w.heap.size, 1, none⟩) q1
      have c2 := hx.cell (a := ⟨w.heap.size, 2, none⟩) q2
      change Oper.wp _ _ ra w' _ _
      refine reg.wp_value (v := .string (T1 ++ T2)) (w' := w') ?_ ⟨_, rfl, reg.Ext.refl _, rfl⟩
      intro ρ rc rf rg re
      rw [re] at s17
      simp [execOp, go_sem, rc, rf, rg, s17] <;> omega
  intro rV w1 hx hf
  have ve0 : rV 0 = .pointer (some ⟨w.heap.size, 0, none⟩) := hf 0 (by decide)
  have ve1 : rV 1 = .int .i64 kind := hf 1 (by decide)
  have ve2 : rV 2 = .int .u8 kind := hf 2 (by decide)
  have ve3 : rV 3 = .pointer (some ⟨w.heap.size, 2, none⟩) := hf 3 (by decide)
  have ve4 : rV 4 = .slice a len cap := hf 4 (by decide)
  have ve5 : rV 5 = .int .i64 len := hf 5 (by decide)
  have ve6 : rV 6 = .int .u8 len := hf 6 (by decide)
  have ve7 := hf 7 (by decide)
  have ve8 : rV 8 = .string T1 := hf 8 (by decide)
  have ve9 : rV 9 = .pointer (some ⟨w.heap.size, 1, none⟩) := hf 9 (by decide)
  have ve10 : rV 10 = .int .i64 size := hf 10 (by decide)
  have ve11 : rV 11 = .string T2 := hf 11 (by decide)
  have ve12 : rV 12 = .string (T1 ++ T2) := hf 12 (by decide)
  have ve13 : rV 13 = .string (T1 ++ T2) := hf 13 (by decide)
  clear hf
  simp only [List.zipIdx_cons, List.zipIdx_nil, List.foldl_cons, List.foldl_nil, Act.put, Nat.reduceAdd, List.setIfInBounds_toArray, List.set_cons_succ, List.set_cons_zero, ve0, ve1, ve2, ve3, ve4, ve5, ve6, ve8, ve9, ve10, ve11, ve12, ve13]
  clear ve0 ve1 ve2 ve3 ve4 ve5 ve6 ve8 ve9 ve10 ve11 ve12 ve13
  generalize rV 7 = v7 at *
  clear rV
  obtain ⟨g, hg, -⟩ := ve7
  have HB1 : Hid (Below w.heap.size w w1) := HBA.out.trans ((Below.trans (Below.drew (Below.refl _ _)) hx).mono HBA.out.size)
  have hx1 := hx.cell (a := ⟨w.heap.size, 2, none⟩) q2
  have HQ2 := Lib.hid hx1
  clear hx hx1 q0 q1 q2 hcv1 hg hlt
  rw [HJ.out]
  clear HJ HN4 HCH hs0 hs4 wk wl
  go_wp2_with fail
  go_loopw [3, 4] (fun o i wr => ∃ k : Nat, k ≤ len ∧ i = .int .i64 k ∧ o = .string ⟨(bodyB kind size len ex k).toArray⟩ ∧ Hid (Below w.heap.size w wr) ∧ Hid (wr.cell? ⟨w.heap.size, 2, none⟩ = some (.slice a len cap))) (fun _ i _ => len - (intOf i).toNat)
  case atStart => exact ⟨0, Nat.zero_le _, rfl, rfl, HB1, HQ2⟩
  case round =>
    obtain ⟨k, hk, rfl, rfl, HB, HQ⟩ := hrel
    have r2 := HQ.out
    have hbl := bodyB_len kind size len ex k
    by_cases hlt : k < len
    · obtain ⟨b, off, rfl, hbw, hcells⟩ := (HX.out.below HB.out) (by omega)
      obtain ⟨d0, d1⟩ := hcells k hlt
      have hg : ¬ extBad (ex k) := by
        have := okTo_le HOK.out (show k + 1 ≤ len by omega)
        simp only [okTo, Bool.and_eq_true, Bool.not_eq_true', decide_eq_false_iff_not] at this
        exact this.2
      have HLS : Hid (((⟨(bodyB kind size len ex k).toArray⟩ : ByteArray) ++ ⟨(le (ex k).1.toNat 2).toArray⟩) ++ ⟨(le (ex k).2.toNat 2).toArray⟩ = ⟨(bodyB kind size len ex (k + 1)).toArray⟩) := by
        rw [Hid, join, join]; rfl
      unfold extBad at hg
      generalize (ex k).1 = ef at *
      generalize (ex k).2 = el at *
      have HN1 := Lib.hid (fun W : World => num2 W ef (by omega) (by omega))
      have HN2 := Lib.hid (fun W : World => num2 W el (by omega) (by omega))
      have z1 : (⟨(bodyB kind size len ex k).toArray⟩ : ByteArray).size = 8 + 4 * k := by rw [str_size, hbl]
      have z2 : (⟨(le ef.toNat 2).toArray⟩ : ByteArray).size = 2 := by rw [str_size, le_len]
      have z3 : (⟨(le el.toNat 2).toArray⟩ : ByteArray).size = 2 := by rw [str_size, le_len]
      generalize (⟨(bodyB kind size len ex k).toArray⟩ : ByteArray) = T1 at *
      generalize (⟨(le ef.toNat 2).toArray⟩ : ByteArray) = T2 at *
      generalize (⟨(le el.toNat 2).toArray⟩ : ByteArray) = T3 at *
      have hk1 : (k : Int) < len := by omega
      clear hcells hg hbl
      go_wp2_with fail
      refine reg.region_each (by kernel_rfl) reg.Ext (fun ri v w' => match ri with
          | 0 => v = .string T1
          | 1 => v = .pointer (some ⟨w.heap.size, 2, none⟩)
          | 2 => v = .slice (some ⟨b, off, none⟩) len cap
          | 3 => v = .int .i64 k
          | 4 => v = .pointer (some ⟨b, off + k * 2, none⟩)
          | 5 => v = .pointer (some ⟨b, off + k * 2, none⟩)
          | 6 => v = .int .i64 ef
          | 7 => v = .string T2
          | 8 => v = .string (T1 ++ T2)
          | 9 => v = .pointer (some ⟨w.heap.size, 2, none⟩)
          | 10 => v = .slice (some ⟨b, off, none⟩) len cap
          | 11 => v = .int .i64 k
          | 12 => v = .pointer (some ⟨b, off + k * 2, none⟩)
          | 13 => v = .pointer (some ⟨b, off + k * 2 + 1, none⟩)
          | 14 => v = .int .i64 el
          | 15 => v = .string T3
          | 16 => v = .string (T1 ++ T2 ++ T3)
          | 17 => v = .string (T1 ++ T2 ++ T3)
          | _ => True) reg.Ext.refl reg.Ext.trans ?mono2 (by kernel_rfl) ?step2 ?fin2
      case mono2 =>
        intro i v w1 w2 h hx
        rcases i with _|_|_|_|_|_|_|_|_|_|_|_|_|_|_|_|_|_|i
        · exact h
        · exact h
        · exact h
        · exact h
        · exact h
        · exact h
        · exact h
        · exact h
        · exact h
        · exact h
        · exact h
        · exact h
        · exact h
        · exact h
        · exact h
        · exact h
        · exact h
        · exact h
        · trivial
      case step2 =>
        refine ⟨?_, ?_, ?_, ?_, ?_, ?_, ?_, ?_, ?_, ?_, ?_, ?_, ?_, ?_, ?_, ?_, ?_, ?_, trivial⟩
        · -- 0: slot 25 := Op.move t3
          intro ra w' hx hs
          have s3 : ra.eval (.tmp 3) = .string T1 := hs.1
          clear hs
          have c2 := hx.cell r2
          have c0 := hx.cell d0
          have c1 := hx.cell d1
          change Oper.wp _ _ ra w' _ _
          refine reg.wp_value (v := .string T1) (w' := w') ?_ ⟨_, rfl, reg.Ext.refl _, rfl⟩
          intro ρ rc rf rg re
          rw [re] at s3
          simp [execOp, go_sem, rc, rf, rg, s3] <;> omega
        · -- 1: slot 26 := Op.fieldAddr 73 t1 2
          intro ra w' hx hs
          have s1 : ra.eval (.tmp 1) = .pointer (some ⟨w.heap.size, 0, none⟩) := hs.1
          clear hs
          have c2 := hx.cell r2
          have c0 := hx.cell d0
          have c1 := hx.cell d1
          change Oper.wp _ _ ra w' _ _
          refine reg.wp_value (v := .pointer (some ⟨w.heap.size, 2, none⟩)) (w' := w') ?_ ⟨_, rfl, reg.Ext.refl _, rfl⟩
          intro ρ rc rf rg re
          rw [re] at s1
          simp [execOp, go_sem, rc, rf, rg, s1] <;> omega
        · -- 2: slot 27 := Op.load 71 t26
          intro ra w' hx hs
          have s26 : ra.eval (.tmp 26) = .pointer (some ⟨w.heap.size, 2, none⟩) := hs.1
          clear hs
          have c2 := hx.cell r2
          have c0 := hx.cell d0
          have c1 := hx.cell d1
          change Oper.wp _ _ ra w' _ _
          refine reg.wp_value (v := .slice (some ⟨b, off, none⟩) len cap) (w' := w') ?_ ⟨_, rfl, reg.Ext.refl _, rfl⟩
          intro ρ rc rf rg re
          rw [re] at s26
          simp [execOp, go_sem, rc, rf, rg, s26, c2] <;> omega
        · -- 3: slot 28 := Op.move t4
          intro ra w' hx hs
          have s4 : ra.eval (.tmp 4) = .int .i64 k := hs.1
          clear hs
          have c2 := hx.cell r2
          have c0 := hx.cell d0
          have c1 := hx.cell d1
          change Oper.wp _ _ ra w' _ _
          refine reg.wp_value (v := .int .i64 k) (w' := w') ?_ ⟨_, rfl, reg.Ext.refl _, rfl⟩
          intro ρ rc rf rg re
          rw [re] at s4
          simp [execOp, go_sem, rc, rf, rg, s4] <;> omega
        · -- 4: slot 29 := Op.indexAddr 71 t27 t28
          intro ra w' hx hs
          have s27 : ra.eval (.tmp 27) = .slice (some ⟨b, off, none⟩) len cap := hs.1
          have s28 : ra.eval (.tmp 28) = .int .i64 k := hs.2.1
          clear hs
          have c2 := hx.cell r2
          have c0 := hx.cell d0
          have c1 := hx.cell d1
          change Oper.wp _ _ ra w' _ _
          refine reg.wp_value (v := .pointer (some ⟨b, off + k * 2, none⟩)) (w' := w') ?_ ⟨_, rfl, reg.Ext.refl _, rfl⟩
          intro ρ rc rf rg re
          rw [re] at s27 s28
          simp [execOp, go_sem, rc, rf, rg, s27, s28, hk1, hlt] <;> omega
        · -- 5: slot 30 := Op.fieldAddr 41 t29 0
          intro ra w' hx hs
          have s29 : ra.eval (.tmp 29) = .pointer (some ⟨b, off + k * 2, none⟩) := hs.1
          clear hs
          have c2 := hx.cell r2
          have c0 := hx.cell d0
          have c1 := hx.cell d1
          change Oper.wp _ _ ra w' _ _
          refine reg.wp_value (v := .pointer (some ⟨b, off + k * 2, none⟩)) (w' := w') ?_ ⟨_, rfl, reg.Ext.refl _, rfl⟩
          intro ρ rc rf rg re
          rw [re] at s29
          simp [execOp, go_sem, rc, rf, rg, s29] <;> omega
        · -- 6: slot 31 := Op.load 3 t30
          intro ra w' hx hs
          have s30 : ra.eval (.tmp 30) = .pointer (some ⟨b, off + k * 2, none⟩) := hs.1
          clear hs
          have c2 := hx.cell r2
          have c0 := hx.cell d0
          have c1 := hx.cell d1
          change Oper.wp _ _ ra w' _ _
          refine reg.wp_value (v := .int .i64 ef) (w' := w') ?_ ⟨_, rfl, reg.Ext.refl _, rfl⟩
          intro ρ rc rf rg re
          rw [re] at s30
          simp [execOp, go_sem, rc, rf, rg, s30, c0] <;> omega
        · -- 7: slot 32 := Op.call { value (Operand.func 82), args := #[t31, const (2:i64)], argTypes := #[3, 3] }
          intro ra w' hx hs
          have s31 : ra.eval (.tmp 31) = .int .i64 ef := hs.1
          clear hs
          have c2 := hx.cell r2
          have c0 := hx.cell d0
          have c1 := hx.cell d1
          change Oper.wp _ _ ra w' _ _
          refine reg.wp_call (f := 82) (args := #[.int .i64 ef, .int .i64 2]) (w' := w') ?_ ((HN1.out _).mono ?_)
          · intro ρ rc rf rg re
            rw [re] at s31
            simp [execOp, go_sem, rc, rf, rg, s31] <;> omega
          · rintro e w2 ⟨rfl, hb⟩
            exact ⟨_, rfl, _, rfl, hb, rfl⟩
        · -- 8: slot 33 := Op.binOp BinOp.add 9 t25 t32 9
          intro ra w' hx hs
          have s25 : ra.eval (.tmp 25) = .string T1 := hs.1
          have s32 : ra.eval (.tmp 32) = .string T2 := hs.2.1
          clear hs
          have c2 := hx.cell r2
          have c0 := hx.cell d0
          have c1 := hx.cell d1
          change Oper.wp _ _ ra w' _ _
          refine reg.wp_value (v := .string (T1 ++ T2)) (w' := w') ?_ ⟨_, rfl, reg.Ext.refl _, rfl⟩
          intro ρ rc rf rg re
          rw [re] at s25 s32
          simp [execOp, go_sem, rc, rf, rg, s25, s32, z1, z2] <;> omega
        · -- 9: slot 34 := Op.fieldAddr 73 t1 2
          intro ra w' hx hs
          have s1 : ra.eval (.tmp 1) = .pointer (some ⟨w.heap.size, 0, none⟩) := hs.1
          clear hs
          have c2 := hx.cell r2
          have c0 := hx.cell d0
          have c1 := hx.cell d1
          change Oper.wp _ _ ra w' _ _
          refine reg.wp_value (v := .pointer (some ⟨w.heap.size, 2, none⟩)) (w' := w') ?_ ⟨_, rfl, reg.Ext.refl _, rfl⟩
          intro ρ rc rf rg re
          rw [re] at s1
          simp [execOp, go_sem, rc, rf, rg, s1] <;> omega
        · -- 10: slot 35 := Op.load 71 t34
          intro ra w' hx hs
          have s34 : ra.eval (.tmp 34) = .pointer (some ⟨w.heap.size, 2, none⟩) := hs.1
          clear hs
          have c2 := hx.cell r2
          have c0 := hx.cell d0
          have c1 := hx.cell d1
          change Oper.wp _ _ ra w' _ _
          refine reg.wp_value (v := .slice (some ⟨b, off, none⟩) len cap) (w' := w') ?_ ⟨_, rfl, reg.Ext.refl _, rfl⟩
          intro ρ rc rf rg re
          rw [re] at s34
          simp [execOp, go_sem, rc, rf, rg, s34, c2] <;> omega
        · -- 11: slot 36 := Op.move t4
          intro ra w' hx hs
          have s4 : ra.eval (.tmp 4) = .int .i64 k := hs.1
          clear hs
          have c2 := hx.cell r2
          have c0 := hx.cell d0
          have c1 := hx.cell d1
          change Oper.wp _ _ ra w' _ _
          refine reg.wp_value (v := .int .i64 k) (w' := w') ?_ ⟨_, rfl, reg.Ext.refl _, rfl⟩
          intro ρ rc rf rg re
          rw [re] at s4
          simp [execOp, go_sem, rc, rf, rg, s4] <;> omega
        · -- 12: slot 37 := Op.indexAddr 71 t35 t36
          intro ra w' hx hs
          have s35 : ra.eval (.tmp 35) = .slice (some ⟨b, off, none⟩) len cap := hs.1
          have s36 : ra.eval (.tmp 36) = .int .i64 k := hs.2.1
          clear hs
          have c2 := hx.cell r2
          have c0 := hx.cell d0
          have c1 := hx.cell d1
          change Oper.wp _ _ ra w' _ _
          refine reg.wp_value (v := .pointer (some ⟨b, off + k * 2, none⟩)) (w' := w') ?_ ⟨_, rfl, reg.Ext.refl _, rfl⟩
          intro ρ rc rf rg re
          rw [re] at s35 s36
          simp [execOp, go_sem, rc, rf, rg, s35, s36, hk1, hlt] <;> omega
        · -- 13: slot 38 := Op.fieldAddr 41 t37 1
          intro ra w' hx hs
          have s37 : ra.eval (.tmp 37) = .pointer (some ⟨b, off + k * 2, none⟩) := hs.1
          clear hs
          have c2 := hx.cell r2
          have c0 := hx.cell d0
          have c1 := hx.cell d1
          change Oper.wp _ _ ra w' _ _
          refine reg.wp_value (v := .pointer (some ⟨b, off + k * 2 + 1, none⟩)) (w' := w') ?_ ⟨_, rfl, reg.Ext.refl _, rfl⟩
          intro ρ rc rf rg re
          rw [re] at s37
          simp [execOp, go_sem, rc, rf, rg, s37] <;> omega
        · -- 14: slot 39 := Op.load 3 t38
          intro ra w' hx hs
          have s38 : ra.eval (.tmp 38) = .pointer (some ⟨b, off + k * 2 + 1, none⟩) := hs.1
          clear hs
          have c2 := hx.cell r2
          have c0 := hx.cell d0
          have c1 := hx.cell d1
          change Oper.wp _ _ ra w' _ _
          refine reg.wp_value (v := .int .i64 el) (w' := w') ?_ ⟨_, rfl, reg.Ext.refl _, rfl⟩
          intro ρ rc rf rg re
          rw [re] at s38
          simp [execOp, go_sem, rc, rf, rg, s38, c1] <;> omega
        · -- 15: slot 40 := Op.call { value (Operand.func 82), args := #[t39, const (2:i64)], argTypes := #[3, 3] }
          intro ra w' hx hs
          have s39 : ra.eval (.tmp 39) = .int .i64 el := hs.1
          clear hs
          have c2 := hx.cell r2
          have c0 := hx.cell d0
          have c1 := hx.cell d1
          change Oper.wp _ _ ra w' _ _
          refine reg.wp_call (f := 82) (args := #[.int .i64 el, .int .i64 2]) (w' := w') ?_ ((HN2.out _).mono ?_)
          · intro ρ rc rf rg re
            rw [re] at s39
            simp [execOp, go_sem, rc, rf, rg, s39] <;> omega
          · rintro e w2 ⟨rfl, hb⟩
            exact ⟨_, rfl, _, rfl, hb, rfl⟩
        · -- 16: slot 41 := Op.binOp BinOp.add 9 t33 t40 9
          intro ra w' hx hs
          have s33 : ra.eval (.tmp 33) = .string (T1 ++ T2) := hs.1
          have s40 : ra.eval (.tmp 40) = .string T3 := hs.2.1
          clear hs
          have c2 := hx.cell r2
          have c0 := hx.cell d0
          have c1 := hx.cell d1
          change Oper.wp _ _ ra w' _ _
          refine reg.wp_value (v := .string (T1 ++ T2 ++ T3)) (w' := w') ?_ ⟨_, rfl, reg.Ext.refl _, rfl⟩
          intro ρ rc rf rg re
          rw [re] at s33 s40
          simp [execOp, go_sem, rc, rf, rg, s33, s40, z1, z2, z3] <;> omega
        · -- 17: slot 3 := Op.assign t41
          intro ra w' hx hs
          have s41 : ra.eval (.tmp 41) = .string (T1 ++ T2 ++ T3) := hs.1
          clear hs
          have c2 := hx.cell r2
          have c0 := hx.cell d0
          have c1 := hx.cell d1
          change Oper.wp _ _ ra w' _ _
          refine reg.wp_value (v := .string (T1 ++ T2 ++ T3)) (w' := w') ?_ ⟨_, rfl, reg.Ext.refl _, rfl⟩
          intro ρ rc rf rg re
          rw [re] at s41
          simp [execOp, go_sem, rc, rf, rg, s41] <;> omega
      intro rV w2 hx hf
      have ve0 : rV 0 = .string T1 := hf 0 (by decide)
      have ve1 : rV 1 = .pointer (some ⟨w.heap.size, 2, none⟩) := hf 1 (by decide)
      have ve2 : rV 2 = .slice (some ⟨b, off, none⟩) len cap := hf 2 (by decide)
      have ve3 : rV 3 = .int .i64 k := hf 3 (by decide)
      have ve4 : rV 4 = .pointer (some ⟨b, off + k * 2, none⟩) := hf 4 (by decide)
      have ve5 : rV 5 = .pointer (some ⟨b, off + k * 2, none⟩) := hf 5 (by decide)
      have ve6 : rV 6 = .int .i64 ef := hf 6 (by decide)
      have ve7 : rV 7 = .string T2 := hf 7 (by decide)
      have ve8 : rV 8 = .string (T1 ++ T2) := hf 8 (by decide)
      have ve9 : rV 9 = .pointer (some ⟨w.heap.size, 2, none⟩) := hf 9 (by decide)
      have ve10 : rV 10 = .slice (some ⟨b, off, none⟩) len cap := hf 10 (by decide)
      have ve11 : rV 11 = .int .i64 k := hf 11 (by decide)
      have ve12 : rV 12 = .pointer (some ⟨b, off + k * 2, none⟩) := hf 12 (by decide)
      have ve13 : rV 13 = .pointer (some ⟨b, off + k * 2 + 1, none⟩) := hf 13 (by decide)
      have ve14 : rV 14 = .int .i64 el := hf 14 (by decide)
      have ve15 : rV 15 = .string T3 := hf 15 (by decide)
      have ve16 : rV 16 = .string (T1 ++ T2 ++ T3) := hf 16 (by decide)
      have ve17 : rV 17 = .string (T1 ++ T2 ++ T3) := hf 17 (by decide)
      clear hf
      simp only [List.zipIdx_cons, List.zipIdx_nil, List.foldl_cons, List.foldl_nil, Act.put, Nat.reduceAdd, List.setIfInBounds_toArray, List.set_cons_succ, List.set_cons_zero, ve0, ve1, ve2, ve3, ve4, ve5, ve6, ve7, ve8, ve9, ve10, ve11, ve12, ve13, ve14, ve15, ve16, ve17]
      clear ve0 ve1 ve2 ve3 ve4 ve5 ve6 ve7 ve8 ve9 ve10 ve11 ve12 ve13 ve14 ve15 ve16 ve17
      clear rV
      have HB2 : Hid (Below w.heap.size w w2) := HB.out.trans ((Below.trans (Below.drew (Below.refl _ _)) hx).mono HB.out.size)
      have HQ2 := Lib.hid (hx.cell (a := ⟨w.heap.size, 2, none⟩) r2)
      clear hx r2 d0 d1
      rw [HLS.out]
      go_wp2_with fail
      go_roundw
      case rel => exact ⟨k + 1, by omega, by go_num, rfl, HB2, HQ2⟩
      case measure => simp [intOf]; omega
    · obtain rfl : k = len := by omega
      have e0 : (⟨(bodyB kind size k ex k).toArray⟩ : ByteArray) = ⟨(bodyB kind size k ex k ++ List.replicate 0 0).toArray⟩ := by simp
      have HBL := Lib.hid hbl
      clear hbl
      have HE0 := Lib.hid e0
      clear e0
      go_wp2_with fail
      go_loopw [3] (fun o wr => ∃ m : Nat, 8 + 4 * k + m ≤ 64 ∧ o = .string ⟨(bodyB kind size k ex k ++ List.replicate m 0).toArray⟩ ∧ Hid (Below w.heap.size w wr)) (fun o _ => 64 - (strOf o).size)
      case atStart => exact ⟨0, by omega, by rw [← HE0.out], HB⟩
      case round =>
        obtain ⟨m, hm, rfl, HB2⟩ := hrel
        have HP : Hid ((⟨(bodyB kind size k ex k ++ List.replicate m 0).toArray⟩ : ByteArray) ++ ⟨#[0]⟩ = ⟨(bodyB kind size k ex k ++ List.replicate (m + 1) 0).toArray⟩) := by
          rw [Hid, show (⟨#[0]⟩ : ByteArray) = ⟨([0] : List UInt8).toArray⟩ from rfl, join, List.append_assoc]
          rw [show List.replicate m (0 : UInt8) ++ [0] = List.replicate (m + 1) 0 from by rw [List.replicate_succ']]
        have HI : Hid (8 + 4 * k + m = 64 → (⟨(bodyB kind size k ex k ++ List.replicate m 0).toArray⟩ : ByteArray) = ⟨(inoB kind size k ex).toArray⟩) := fun h => by
          rw [inoB, show m = 56 - 4 * k by omega]
        have z1 : (⟨(bodyB kind size k ex k ++ List.replicate m 0).toArray⟩ : ByteArray).size = 8 + 4 * k + m := by rw [str_size]; simp [HBL.out]
        have z2 : (⟨(bodyB kind size k ex k ++ List.replicate (m + 1) 0).toArray⟩ : ByteArray).size = 8 + 4 * k + (m + 1) := by rw [str_size]; simp [HBL.out]
        have HZ2 := Lib.hid z2
        clear z2
        generalize (⟨(bodyB kind size k ex k ++ List.replicate m 0).toArray⟩ : ByteArray) = T1 at *
        have HZ1 := Lib.hid z1
        by_cases h64 : 8 + 4 * k + m < 64
        · go_wp2_with fail
          rw [HP.out]
          go_roundw
          case rel => exact ⟨m + 1, by omega, rfl, HB2⟩
          case measure => simp [strOf, HZ1.out, HZ2.out]; omega
        · have HI2 := Lib.hid (HI.out (by omega))
          go_wp2_with fail
          rw [HI2.out]
          go_ret
          exact ⟨rfl, HB2.out⟩
end Go.Proofs.Ytjaljnpgomfmfaa.inode
