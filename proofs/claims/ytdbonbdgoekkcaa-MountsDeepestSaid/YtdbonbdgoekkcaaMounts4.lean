/-
  Proved: what Table.Walk gives. Conditions: as each theorem says.
-/
import Derived.Test.YtdbonbdgoekkcaaMounts3
import Derived.Test.YtdbonbdgoekkcaaReg2
namespace Go.Proofs.Ytdbonbdgoekkcaa.mounts
open Go.RowKit Go.Shelf
open heap path
set_option linter.unusedVariables false
set_option linter.unusedSimpArgs false

def lenAt (ms : List Mt) (k : Nat) : Nat := match ms[k]? with
  | some m => m.at_.length
  | none => 0
def stepB (ms : List Mt) (s : List UInt8) (best : Int) (i : Nat) (m : Mt) : Int :=
  if belowB s m.at_ = false then best else if 0 ≤ best ∧ m.at_.length < lenAt ms best.toNat then best else i
def bestOf (ms : List Mt) (s : List UInt8) : Nat → Int
  | 0 => -1
  | j + 1 => match ms[j]? with
    | some m => stepB ms s (bestOf ms s j) j m
    | none => bestOf ms s j
theorem bestOf_lt (ms : List Mt) (s : List UInt8) (j : Nat) : -1 ≤ bestOf ms s j ∧ bestOf ms s j < j := by
  induction j with
  | zero => simp [bestOf]
  | succ j ih =>
    unfold bestOf
    split
    · unfold stepB
      split
      · omega
      · split <;> omega
    · omega
theorem bestOf_below (ms : List Mt) (s : List UInt8) (j k : Nat) (h : bestOf ms s j = k) : ∃ m, ms[k]? = some m ∧ belowB s m.at_ = true := by
  induction j with
  | zero => simp [bestOf] at h
  | succ j ih =>
    unfold bestOf at h
    split at h
    · rename_i m hm
      unfold stepB at h
      split at h
      · exact ih h
      · rename_i hb
        split at h
        · exact ih h
        · obtain rfl : j = k := by omega
          exact ⟨m, hm, by simpa using hb⟩
    · exact ih h
theorem below_len (s t : List UInt8) (h : belowB s t = true) : t.length ≤ s.length := by
  simp only [belowB, Bool.or_eq_true, decide_eq_true_eq] at h
  rcases h with h | h | h
  · rw [h]; simp
  · rw [h]; exact Nat.le_refl _
  · unfold Lib.hasPrefix at h
    rw [List.isPrefixOf_iff_prefix] at h
    have := h.length_le
    simp at this
    omega
theorem drop_str (l : List UInt8) (f : Nat) : (⟨l.toArray⟩ : ByteArray).extract f l.length = ⟨(l.drop f).toArray⟩ := by
  apply ByteArray.ext
  rw [ByteArray.data_extract]
  simp only [List.extract_toArray, List.extract_eq_take_drop]
  rw [List.take_of_length_le (by simp)]
def walkR (ms : List Mt) (s : List UInt8) : List UInt8 × Bool :=
  if cleanM s = false then (s, false) else if bestOf ms s ms.length < 0 then (s, false) else match ms[(bestOf ms s ms.length).toNat]? with
  | some m => (pJoin m.fr (s.drop (m.at_.length + 1)), m.on)
  | none => (s, false)
set_option maxRecDepth 100000 in
set_option maxHeartbeats 4000000 in
theorem Walk_any (p B : Nat) (ms : List Mt) (s : List UInt8) (w : World) (h : MTab w p B ms) (hn : ms.length ≤ 1000) (hs : s.length ≤ 1000000) (hms : ∀ m ∈ ms, m.at_.length ≤ 1000 ∧ m.fr.length ≤ 1000) :
    Calls Try.prog 9 #[P p, sv s] w fun e w' => e = .returned (.tuple #[sv (walkR ms s).1, .bool (walkR ms s).2]) ∧ Below w.heap.size w w' := by
  have HC := Lib.hid (fun W : World => mclean_any s W hs)
  have HR := Lib.hid (show walkR ms s = if cleanM s = false then (s, false) else if bestOf ms s ms.length < 0 then (s, false) else match ms[(bestOf ms s ms.length).toNat]? with
    | some m => (pJoin m.fr (s.drop (m.at_.length + 1)), m.on)
    | none => (s, false) from rfl)
  generalize walkR ms s = R at *
  have HT := Lib.hid h
  have HM := Lib.hid hms
  have z := str_size s
  clear h hms
  cases hcm : cleanM s with
  | false =>
    obtain rfl : R = (s, false) := by rw [HR.out, if_pos hcm]
    rw [hcm] at HC
    go_enter Try.func9, Try.ntmps9
    go_wp2_with fail
    go_step3
    go_wp2_with fail
    (with_reducible refine (HC.out _).mono ?_); rintro e w1 ⟨rfl, hb1⟩
    have HB1 := Lib.hid hb1
    clear hb1
    go_wp2_with fail
    rw [Exit.noGoto_ret]
    first | go_ret | go_ret2
    exact ⟨rfl, HB1.out⟩
  | true =>
    have hR := HR.out
    rw [if_neg (by simp [hcm])] at hR
    have HR2 := Lib.hid hR
    rw [hcm] at HC
    clear hR HR
    go_enter Try.func9, Try.ntmps9
    go_wp2_with fail
    go_step3
    go_wp2_with fail
    (with_reducible refine (HC.out _).mono ?_); rintro e w1 ⟨rfl, hb1⟩
    have HB1 := Lib.hid hb1
    obtain ⟨v, hp, hrow⟩ := (HT.out.below hb1).row
    obtain ⟨a1, c1, rfl⟩ := hrow.slice
    have k0 : w1.cell? ⟨p, 0, none⟩ = some (.slice a1 ms.length c1) := by rw [blk_cell hp]; rfl
    have HP := Lib.hid hp
    have HROW := Lib.hid hrow
    clear hb1 hp hrow
    go_wp2_with fail
    go_step3
    go_wp2_with fail
    go_loopw [6, 22] (fun vb vi wr => ∃ j : Nat, j ≤ ms.length ∧ vi = .int .i64 j ∧ vb = .int .i64 (bestOf ms s j) ∧ Hid (Below w1.heap.size w1 wr)) (fun _ vi _ => ms.length - (intOf vi).toNat)
    case atStart => exact ⟨0, by omega, rfl, rfl, Below.refl _ _⟩
    case round =>
      obtain ⟨j, hj, rfl, rfl, HW⟩ := hrel
      obtain ⟨hb1, hb2⟩ := bestOf_lt ms s j
      by_cases hlt : j < ms.length
      · rcases (HROW.out.below HW.out).cells with ⟨-, hw⟩ | ⟨g, c', hv', hgl, hgb, hc1, hc2, hcell⟩
        · rw [hw] at hlt; simp at hlt
        · simp only [Value.slice.injEq] at hv'
          obtain ⟨rfl, -, rfl⟩ := hv'
          have hji : (j : Int) < ms.length := by omega
          obtain ⟨m, hm⟩ : ∃ m, ms[j]? = some m := ⟨_, List.getElem?_eq_getElem hlt⟩
          obtain ⟨e0, e1, e2⟩ := hcell _ m hm
          have hml := HM.out m (List.mem_of_getElem? hm)
          have HST : Hid (bestOf ms s (j + 1) = stepB ms s (bestOf ms s j) j m) := by rw [Hid, bestOf, hm]
          have HCELL := Lib.hid hcell
          obtain ⟨at1, fr1, on1⟩ := m
          simp only at e0 e1 e2 hml
          have HBE := Lib.hid (fun W : World => Below_any s at1 W (by omega))
          unfold maxLen at hc2
          clear hcell hm
          generalize bestOf ms s j = best at *
          go_wp2_with fail
          have hbx : (wr.alloc (.cells #[sv at1, sv fr1, .bool on1] 29 (0, 0))).heap[wr.heap.size]? = some (.cells #[sv at1, sv fr1, .bool on1] 29 (0, 0)) := blk_new _ _
          have HBW : Hid (Below w1.heap.size w1 (wr.alloc (.cells #[sv at1, sv fr1, .bool on1] 29 (0, 0)))) := HW.out.alloc HW.out.size _
          have HCW : Hid (∀ a v, wr.cell? a = some v → (wr.alloc (.cells #[sv at1, sv fr1, .bool on1] 29 (0, 0))).cell? a = some v) := fun a v h => reg.Ext.cell ((Below.refl _ _).alloc (Nat.le_refl _) _) h
          generalize wr.alloc (.cells #[sv at1, sv fr1, .bool on1] 29 (0, 0)) = W1 at *
          generalize wr.heap.size = bx at *
          have qbx : W1.cell? ⟨bx, 0, none⟩ = some (sv at1) := by rw [blk_cell hbx]; rfl
          have qp : W1.cell? ⟨p, 0, none⟩ = some (.slice (some ⟨g, 0, none⟩) ms.length c1) := by
            rw [blk_cell ((HBW.out.block p (blk_lt HP.out)).trans HP.out)]; rfl
          clear hbx
          cases hbl : belowB s at1 with
          | false =>
            have HS2 : Hid (bestOf ms s (j + 1) = best) := by rw [Hid, HST.out, stepB, if_pos hbl]
            rw [hbl] at HBE
            refine reg.region_each (by kernel_rfl) reg.Ext (fun ri v w' => match ri with
                | 0 => v = sv s
                | 1 => v = .pointer (some ⟨bx, 0, none⟩)
                | 2 => v = sv at1
                | 3 => v = .bool false
                | 4 => v = .bool true
                | 5 => v = .bool true
                | 6 => v = undef
                | 7 => v = undef
                | 8 => v = undef
                | 9 => v = undef
                | 10 => v = undef
                | 11 => v = undef
                | 12 => v = undef
                | 13 => v = undef
                | 14 => v = undef
                | 15 => v = undef
                | 16 => v = undef
                | 17 => v = undef
                | 18 => v = undef
                | 19 => v = undef
                | 20 => v = undef
                | 21 => v = undef
                | 22 => v = undef
                | 23 => v = .bool true
                | _ => True) reg.Ext.refl reg.Ext.trans ?_ (by kernel_rfl) ?_ ?_
            ·
              intro i v w1 w2 h hx
              rcases i with _|_|_|_|_|_|_|_|_|_|_|_|_|_|_|_|_|_|_|_|_|_|_|_|i
              · exact h
              · exact h
              · exact h
              · exact h
              · exact h
              · exact h
              · exact h
              · exact h
              · exact h
              · exact h
              · exact h
              · exact h
              · exact h
              · exact h
              · exact h
              · exact h
              · exact h
              · exact h
              · exact h
              · exact h
              · exact h
              · exact h
              · exact h
              · exact h
              · trivial
            ·
              refine ⟨?_, ?_, ?_, ?_, ?_, ?_, ?_, ?_, ?_, ?_, ?_, ?_, ?_, ?_, ?_, ?_, ?_, ?_, ?_, ?_, ?_, ?_, ?_, ?_, trivial⟩
              · -- 0: slot 27 := Op.move t1
                intro ra w' hx hs
                have s1 : ra.eval (.tmp 1) = sv s := hs.1
                clear hs
                have hcb := reg.Ext.cell hx qbx
                have hcp := reg.Ext.cell hx qp
                change Oper.wp _ _ ra w' _ _
                refine reg.wp_value (v := sv s) (w' := w') ?_ ⟨_, rfl, reg.Ext.refl _, rfl⟩
                intro ρ rc rf rg re
                rw [re] at s1
                simp [execOp, go_sem, rc, rf, rg, s1] <;> first | omega | rfl | decide
              · -- 1: slot 28 := Op.fieldAddr 29 t8 0
                intro ra w' hx hs
                have s8 : ra.eval (.tmp 8) = .pointer (some ⟨bx, 0, none⟩) := hs.1
                clear hs
                have hcb := reg.Ext.cell hx qbx
                have hcp := reg.Ext.cell hx qp
                change Oper.wp _ _ ra w' _ _
                refine reg.wp_value (v := .pointer (some ⟨bx, 0, none⟩)) (w' := w') ?_ ⟨_, rfl, reg.Ext.refl _, rfl⟩
                intro ρ rc rf rg re
                rw [re] at s8
                simp [execOp, go_sem, rc, rf, rg, s8] <;> first | omega | rfl | decide
              · -- 2: slot 29 := Op.load 9 t28
                intro ra w' hx hs
                have s28 : ra.eval (.tmp 28) = .pointer (some ⟨bx, 0, none⟩) := hs.1
                clear hs
                have hcb := reg.Ext.cell hx qbx
                have hcp := reg.Ext.cell hx qp
                change Oper.wp _ _ ra w' _ _
                refine reg.wp_value (v := sv at1) (w' := w') ?_ ⟨_, rfl, reg.Ext.refl _, rfl⟩
                intro ρ rc rf rg re
                rw [re] at s28
                simp [execOp, go_sem, rc, rf, rg, s28, hcb] <;> first | omega | rfl | decide
              · -- 3: slot 30 := Op.call { value (Operand.func 14), args := #[t27, t29], argTypes := #[9, 9] }
                intro ra w' hx hs
                have s27 : ra.eval (.tmp 27) = sv s := hs.1
                have s29 : ra.eval (.tmp 29) = sv at1 := hs.2.1
                clear hs
                have hcb := reg.Ext.cell hx qbx
                have hcp := reg.Ext.cell hx qp
                change Oper.wp _ _ ra w' _ _
                refine reg.wp_call (f := 14) (args := #[sv s, sv at1]) (w' := w') ?_ ((HBE.out w').mono ?_)
                · intro ρ rc rf rg re
                  rw [re] at s27 s29
                  simp [execOp, go_sem, rc, rf, rg, s27, s29] <;> first | omega | rfl | decide
                · rintro e w2 ⟨rfl, hb⟩
                  exact ⟨_, rfl, _, rfl, hb, rfl⟩
              · -- 4: slot 31 := Op.unOp UnOp.not 4 t30
                intro ra w' hx hs
                have s30 : ra.eval (.tmp 30) = .bool false := hs.1
                clear hs
                have hcb := reg.Ext.cell hx qbx
                have hcp := reg.Ext.cell hx qp
                change Oper.wp _ _ ra w' _ _
                refine reg.wp_value (v := .bool true) (w' := w') ?_ ⟨_, rfl, reg.Ext.refl _, rfl⟩
                intro ρ rc rf rg re
                rw [re] at s30
                simp [execOp, go_sem, rc, rf, rg, s30] <;> first | omega | rfl | decide
              · -- 5: slot 32 := Op.move t31
                intro ra w' hx hs
                have s31 : ra.eval (.tmp 31) = .bool true := hs.1
                clear hs
                have hcb := reg.Ext.cell hx qbx
                have hcp := reg.Ext.cell hx qp
                change Oper.wp _ _ ra w' _ _
                refine reg.wp_value (v := .bool true) (w' := w') ?_ ⟨_, rfl, reg.Ext.refl _, rfl⟩
                intro ρ rc rf rg re
                rw [re] at s31
                simp [execOp, go_sem, rc, rf, rg, s31] <;> first | omega | rfl | decide
              · -- 6: slot 33 := Op.move t6
                intro ra w' hx hs
                have s6 : ra.eval (.tmp 6) = .int .i64 best := hs.1
                have s32 : ra.eval (.tmp 32) = .bool true := hs.2.1
                clear hs
                have hcb := reg.Ext.cell hx qbx
                have hcp := reg.Ext.cell hx qp
                exact reg.want_no rfl rfl rfl s32 (by decide) rfl
              · -- 7: slot 34 := Op.binOp BinOp.geq 3 t33 (const (0:i64)) 3
                intro ra w' hx hs
                have s33 : ra.eval (.tmp 33) = undef := hs.1
                have s32 : ra.eval (.tmp 32) = .bool true := hs.2.1
                clear hs
                have hcb := reg.Ext.cell hx qbx
                have hcp := reg.Ext.cell hx qp
                exact reg.want_no rfl rfl rfl s32 (by decide) rfl
              · -- 8: slot 35 := Op.move t34
                intro ra w' hx hs
                have s34 : ra.eval (.tmp 34) = undef := hs.1
                have s32 : ra.eval (.tmp 32) = .bool true := hs.2.1
                clear hs
                have hcb := reg.Ext.cell hx qbx
                have hcp := reg.Ext.cell hx qp
                exact reg.want_no rfl rfl rfl s32 (by decide) rfl
              · -- 9: slot 36 := Op.move t0
                intro ra w' hx hs
                have s0 : ra.eval (.tmp 0) = P p := hs.1
                have s35 : ra.eval (.tmp 35) = undef := hs.2.1
                clear hs
                have hcb := reg.Ext.cell hx qbx
                have hcp := reg.Ext.cell hx qp
                exact reg.want_no_undef rfl rfl rfl s35 rfl
              · -- 10: slot 37 := Op.nilCheck t36
                intro ra w' hx hs
                have s36 : ra.eval (.tmp 36) = undef := hs.1
                have s35 : ra.eval (.tmp 35) = undef := hs.2.1
                clear hs
                have hcb := reg.Ext.cell hx qbx
                have hcp := reg.Ext.cell hx qp
                exact reg.want_no_undef rfl rfl rfl s35 rfl
              · -- 11: slot 38 := Op.fieldAddr 38 t37 0
                intro ra w' hx hs
                have s37 : ra.eval (.tmp 37) = undef := hs.1
                have s35 : ra.eval (.tmp 35) = undef := hs.2.1
                clear hs
                have hcb := reg.Ext.cell hx qbx
                have hcp := reg.Ext.cell hx qp
                exact reg.want_no_undef rfl rfl rfl s35 rfl
              · -- 12: slot 39 := Op.load 35 t38
                intro ra w' hx hs
                have s38 : ra.eval (.tmp 38) = undef := hs.1
                have s35 : ra.eval (.tmp 35) = undef := hs.2.1
                clear hs
                have hcb := reg.Ext.cell hx qbx
                have hcp := reg.Ext.cell hx qp
                exact reg.want_no_undef rfl rfl rfl s35 rfl
              · -- 13: slot 40 := Op.move t6
                intro ra w' hx hs
                have s6 : ra.eval (.tmp 6) = .int .i64 best := hs.1
                have s35 : ra.eval (.tmp 35) = undef := hs.2.1
                clear hs
                have hcb := reg.Ext.cell hx qbx
                have hcp := reg.Ext.cell hx qp
                exact reg.want_no_undef rfl rfl rfl s35 rfl
              · -- 14: slot 41 := Op.indexAddr 35 t39 t40
                intro ra w' hx hs
                have s39 : ra.eval (.tmp 39) = undef := hs.1
                have s40 : ra.eval (.tmp 40) = undef := hs.2.1
                have s35 : ra.eval (.tmp 35) = undef := hs.2.2.1
                clear hs
                have hcb := reg.Ext.cell hx qbx
                have hcp := reg.Ext.cell hx qp
                exact reg.want_no_undef rfl rfl rfl s35 rfl
              · -- 15: slot 42 := Op.fieldAddr 29 t41 0
                intro ra w' hx hs
                have s41 : ra.eval (.tmp 41) = undef := hs.1
                have s35 : ra.eval (.tmp 35) = undef := hs.2.1
                clear hs
                have hcb := reg.Ext.cell hx qbx
                have hcp := reg.Ext.cell hx qp
                exact reg.want_no_undef rfl rfl rfl s35 rfl
              · -- 16: slot 43 := Op.load 9 t42
                intro ra w' hx hs
                have s42 : ra.eval (.tmp 42) = undef := hs.1
                have s35 : ra.eval (.tmp 35) = undef := hs.2.1
                clear hs
                have hcb := reg.Ext.cell hx qbx
                have hcp := reg.Ext.cell hx qp
                exact reg.want_no_undef rfl rfl rfl s35 rfl
              · -- 17: slot 44 := Op.call { builtin len, args := #[t43], argTypes := #[9] }
                intro ra w' hx hs
                have s43 : ra.eval (.tmp 43) = undef := hs.1
                have s35 : ra.eval (.tmp 35) = undef := hs.2.1
                clear hs
                have hcb := reg.Ext.cell hx qbx
                have hcp := reg.Ext.cell hx qp
                exact reg.want_no_undef rfl rfl rfl s35 rfl
              · -- 18: slot 45 := Op.fieldAddr 29 t8 0
                intro ra w' hx hs
                have s8 : ra.eval (.tmp 8) = .pointer (some ⟨bx, 0, none⟩) := hs.1
                have s35 : ra.eval (.tmp 35) = undef := hs.2.1
                clear hs
                have hcb := reg.Ext.cell hx qbx
                have hcp := reg.Ext.cell hx qp
                exact reg.want_no_undef rfl rfl rfl s35 rfl
              · -- 19: slot 46 := Op.load 9 t45
                intro ra w' hx hs
                have s45 : ra.eval (.tmp 45) = undef := hs.1
                have s35 : ra.eval (.tmp 35) = undef := hs.2.1
                clear hs
                have hcb := reg.Ext.cell hx qbx
                have hcp := reg.Ext.cell hx qp
                exact reg.want_no_undef rfl rfl rfl s35 rfl
              · -- 20: slot 47 := Op.call { builtin len, args := #[t46], argTypes := #[9] }
                intro ra w' hx hs
                have s46 : ra.eval (.tmp 46) = undef := hs.1
                have s35 : ra.eval (.tmp 35) = undef := hs.2.1
                clear hs
                have hcb := reg.Ext.cell hx qbx
                have hcp := reg.Ext.cell hx qp
                exact reg.want_no_undef rfl rfl rfl s35 rfl
              · -- 21: slot 48 := Op.binOp BinOp.gtr 3 t44 t47 3
                intro ra w' hx hs
                have s44 : ra.eval (.tmp 44) = undef := hs.1
                have s47 : ra.eval (.tmp 47) = undef := hs.2.1
                have s35 : ra.eval (.tmp 35) = undef := hs.2.2.1
                clear hs
                have hcb := reg.Ext.cell hx qbx
                have hcp := reg.Ext.cell hx qp
                exact reg.want_no_undef rfl rfl rfl s35 rfl
              · -- 22: slot 49 := Op.pick t35 t48 (const (Value.bool false))
                intro ra w' hx hs
                have s35 : ra.eval (.tmp 35) = undef := hs.1
                have s48 : ra.eval (.tmp 48) = undef := hs.2.1
                have s32 : ra.eval (.tmp 32) = .bool true := hs.2.2.1
                clear hs
                have hcb := reg.Ext.cell hx qbx
                have hcp := reg.Ext.cell hx qp
                exact reg.want_no rfl rfl rfl s32 (by decide) rfl
              · -- 23: slot 50 := Op.pick t32 (const (Value.bool true)) t49
                intro ra w' hx hs
                have s32 : ra.eval (.tmp 32) = .bool true := hs.1
                have s49 : ra.eval (.tmp 49) = undef := hs.2.1
                clear hs
                have hcb := reg.Ext.cell hx qbx
                have hcp := reg.Ext.cell hx qp
                change Oper.wp _ _ ra w' _ _
                refine reg.wp_value (v := .bool true) (w' := w') ?_ ⟨_, rfl, reg.Ext.refl _, rfl⟩
                intro ρ rc rf rg re
                rw [re] at s32 s49
                simp [execOp, go_sem, rc, rf, rg, s32, s49] <;> first | omega | rfl | decide
            intro rV w6 hx6 hf
            have ve0 : rV 0 = sv s := hf 0 (by decide)
            have ve1 : rV 1 = .pointer (some ⟨bx, 0, none⟩) := hf 1 (by decide)
            have ve2 : rV 2 = sv at1 := hf 2 (by decide)
            have ve3 : rV 3 = .bool false := hf 3 (by decide)
            have ve4 : rV 4 = .bool true := hf 4 (by decide)
            have ve5 : rV 5 = .bool true := hf 5 (by decide)
            have ve6 : rV 6 = undef := hf 6 (by decide)
            have ve7 : rV 7 = undef := hf 7 (by decide)
            have ve8 : rV 8 = undef := hf 8 (by decide)
            have ve9 : rV 9 = undef := hf 9 (by decide)
            have ve10 : rV 10 = undef := hf 10 (by decide)
            have ve11 : rV 11 = undef := hf 11 (by decide)
            have ve12 : rV 12 = undef := hf 12 (by decide)
            have ve13 : rV 13 = undef := hf 13 (by decide)
            have ve14 : rV 14 = undef := hf 14 (by decide)
            have ve15 : rV 15 = undef := hf 15 (by decide)
            have ve16 : rV 16 = undef := hf 16 (by decide)
            have ve17 : rV 17 = undef := hf 17 (by decide)
            have ve18 : rV 18 = undef := hf 18 (by decide)
            have ve19 : rV 19 = undef := hf 19 (by decide)
            have ve20 : rV 20 = undef := hf 20 (by decide)
            have ve21 : rV 21 = undef := hf 21 (by decide)
            have ve22 : rV 22 = undef := hf 22 (by decide)
            have ve23 : rV 23 = .bool true := hf 23 (by decide)
            clear hf
            simp only [List.zipIdx_cons, List.zipIdx_nil, List.foldl_cons, List.foldl_nil, Act.put, Nat.reduceAdd, List.setIfInBounds_toArray, List.set_cons_succ, List.set_cons_zero, ve0, ve1, ve2, ve3, ve4, ve5, ve6, ve7, ve8, ve9, ve10, ve11, ve12, ve13, ve14, ve15, ve16, ve17, ve18, ve19, ve20, ve21, ve22, ve23]
            clear ve0 ve1 ve2 ve3 ve4 ve5 ve6 ve7 ve8 ve9 ve10 ve11 ve12 ve13 ve14 ve15 ve16 ve17 ve18 ve19 ve20 ve21 ve22 ve23
            clear rV
            have HB6 : Hid (Below w1.heap.size w1 w6) := HBW.out.trans ((show Below W1.heap.size W1 w6 from ⟨hx6.os, hx6.tape, hx6.output, hx6.size, hx6.block⟩).mono HBW.out.size)
            clear hx6
            go_wp2_with fail
            go_roundw
            case rel => exact ⟨j + 1, by omega, by go_num, by rw [HS2.out], HB6⟩
            case measure => simp [intOf]; omega
          | true =>
            rw [hbl] at HBE
            by_cases hneg : best < 0
            · have HS2 : Hid (bestOf ms s (j + 1) = j) := by rw [Hid, HST.out, stepB, if_neg (by simp [hbl]), if_neg (by omega)]
              have hd : decide (0 ≤ best) = false := decide_eq_false (by omega)
              refine reg.region_each (by kernel_rfl) reg.Ext (fun ri v w' => match ri with
                  | 0 => v = sv s
                  | 1 => v = .pointer (some ⟨bx, 0, none⟩)
                  | 2 => v = sv at1
                  | 3 => v = .bool true
                  | 4 => v = .bool false
                  | 5 => v = .bool false
                  | 6 => v = .int .i64 best
                  | 7 => v = .bool false
                  | 8 => v = .bool false
                  | 9 => v = undef
                  | 10 => v = undef
                  | 11 => v = undef
                  | 12 => v = undef
                  | 13 => v = undef
                  | 14 => v = undef
                  | 15 => v = undef
                  | 16 => v = undef
                  | 17 => v = undef
                  | 18 => v = undef
                  | 19 => v = undef
                  | 20 => v = undef
                  | 21 => v = undef
                  | 22 => v = .bool false
                  | 23 => v = .bool false
                  | _ => True) reg.Ext.refl reg.Ext.trans ?_ (by kernel_rfl) ?_ ?_
              ·
                intro i v w1 w2 h hx
                rcases i with _|_|_|_|_|_|_|_|_|_|_|_|_|_|_|_|_|_|_|_|_|_|_|_|i
                · exact h
                · exact h
                · exact h
                · exact h
                · exact h
                · exact h
                · exact h
                · exact h
                · exact h
                · exact h
                · exact h
                · exact h
                · exact h
                · exact h
                · exact h
                · exact h
                · exact h
                · exact h
                · exact h
                · exact h
                · exact h
                · exact h
                · exact h
                · exact h
                · trivial
              ·
                refine ⟨?_, ?_, ?_, ?_, ?_, ?_, ?_, ?_, ?_, ?_, ?_, ?_, ?_, ?_, ?_, ?_, ?_, ?_, ?_, ?_, ?_, ?_, ?_, ?_, trivial⟩
                · -- 0: slot 27 := Op.move t1
                  intro ra w' hx hs
                  have s1 : ra.eval (.tmp 1) = sv s := hs.1
                  clear hs
                  have hcb := reg.Ext.cell hx qbx
                  have hcp := reg.Ext.cell hx qp
                  change Oper.wp _ _ ra w' _ _
                  refine reg.wp_value (v := sv s) (w' := w') ?_ ⟨_, rfl, reg.Ext.refl _, rfl⟩
                  intro ρ rc rf rg re
                  rw [re] at s1
                  simp [execOp, go_sem, rc, rf, rg, s1] <;> first | omega | rfl | decide
                · -- 1: slot 28 := Op.fieldAddr 29 t8 0
                  intro ra w' hx hs
                  have s8 : ra.eval (.tmp 8) = .pointer (some ⟨bx, 0, none⟩) := hs.1
                  clear hs
                  have hcb := reg.Ext.cell hx qbx
                  have hcp := reg.Ext.cell hx qp
                  change Oper.wp _ _ ra w' _ _
                  refine reg.wp_value (v := .pointer (some ⟨bx, 0, none⟩)) (w' := w') ?_ ⟨_, rfl, reg.Ext.refl _, rfl⟩
                  intro ρ rc rf rg re
                  rw [re] at s8
                  simp [execOp, go_sem, rc, rf, rg, s8] <;> first | omega | rfl | decide
                · -- 2: slot 29 := Op.load 9 t28
                  intro ra w' hx hs
                  have s28 : ra.eval (.tmp 28) = .pointer (some ⟨bx, 0, none⟩) := hs.1
                  clear hs
                  have hcb := reg.Ext.cell hx qbx
                  have hcp := reg.Ext.cell hx qp
                  change Oper.wp _ _ ra w' _ _
                  refine reg.wp_value (v := sv at1) (w' := w') ?_ ⟨_, rfl, reg.Ext.refl _, rfl⟩
                  intro ρ rc rf rg re
                  rw [re] at s28
                  simp [execOp, go_sem, rc, rf, rg, s28, hcb] <;> first | omega | rfl | decide
                · -- 3: slot 30 := Op.call { value (Operand.func 14), args := #[t27, t29], argTypes := #[9, 9] }
                  intro ra w' hx hs
                  have s27 : ra.eval (.tmp 27) = sv s := hs.1
                  have s29 : ra.eval (.tmp 29) = sv at1 := hs.2.1
                  clear hs
                  have hcb := reg.Ext.cell hx qbx
                  have hcp := reg.Ext.cell hx qp
                  change Oper.wp _ _ ra w' _ _
                  refine reg.wp_call (f := 14) (args := #[sv s, sv at1]) (w' := w') ?_ ((HBE.out w').mono ?_)
                  · intro ρ rc rf rg re
                    rw [re] at s27 s29
                    simp [execOp, go_sem, rc, rf, rg, s27, s29] <;> first | omega | rfl | decide
                  · rintro e w2 ⟨rfl, hb⟩
                    exact ⟨_, rfl, _, rfl, hb, rfl⟩
                · -- 4: slot 31 := Op.unOp UnOp.not 4 t30
                  intro ra w' hx hs
                  have s30 : ra.eval (.tmp 30) = .bool true := hs.1
                  clear hs
                  have hcb := reg.Ext.cell hx qbx
                  have hcp := reg.Ext.cell hx qp
                  change Oper.wp _ _ ra w' _ _
                  refine reg.wp_value (v := .bool false) (w' := w') ?_ ⟨_, rfl, reg.Ext.refl _, rfl⟩
                  intro ρ rc rf rg re
                  rw [re] at s30
                  simp [execOp, go_sem, rc, rf, rg, s30] <;> first | omega | rfl | decide
                · -- 5: slot 32 := Op.move t31
                  intro ra w' hx hs
                  have s31 : ra.eval (.tmp 31) = .bool false := hs.1
                  clear hs
                  have hcb := reg.Ext.cell hx qbx
                  have hcp := reg.Ext.cell hx qp
                  change Oper.wp _ _ ra w' _ _
                  refine reg.wp_value (v := .bool false) (w' := w') ?_ ⟨_, rfl, reg.Ext.refl _, rfl⟩
                  intro ρ rc rf rg re
                  rw [re] at s31
                  simp [execOp, go_sem, rc, rf, rg, s31] <;> first | omega | rfl | decide
                · -- 6: slot 33 := Op.move t6
                  intro ra w' hx hs
                  have s6 : ra.eval (.tmp 6) = .int .i64 best := hs.1
                  have s32 : ra.eval (.tmp 32) = .bool false := hs.2.1
                  clear hs
                  have hcb := reg.Ext.cell hx qbx
                  have hcp := reg.Ext.cell hx qp
                  refine reg.want_yes rfl rfl rfl s32 rfl ?_
                  change Oper.wp _ _ ra w' _ _
                  refine reg.wp_value (v := .int .i64 best) (w' := w') ?_ ⟨_, rfl, reg.Ext.refl _, rfl⟩
                  intro ρ rc rf rg re
                  rw [re] at s6 s32
                  simp [execOp, go_sem, rc, rf, rg, s6, s32] <;> first | omega | rfl | decide
                · -- 7: slot 34 := Op.binOp BinOp.geq 3 t33 (const (0:i64)) 3
                  intro ra w' hx hs
                  have s33 : ra.eval (.tmp 33) = .int .i64 best := hs.1
                  have s32 : ra.eval (.tmp 32) = .bool false := hs.2.1
                  clear hs
                  have hcb := reg.Ext.cell hx qbx
                  have hcp := reg.Ext.cell hx qp
                  refine reg.want_yes rfl rfl rfl s32 rfl ?_
                  change Oper.wp _ _ ra w' _ _
                  refine reg.wp_value (v := .bool false) (w' := w') ?_ ⟨_, rfl, reg.Ext.refl _, rfl⟩
                  intro ρ rc rf rg re
                  rw [re] at s33 s32
                  simp [execOp, go_sem, rc, rf, rg, s33, s32, hd] <;> first | omega | rfl | decide
                · -- 8: slot 35 := Op.move t34
                  intro ra w' hx hs
                  have s34 : ra.eval (.tmp 34) = .bool false := hs.1
                  have s32 : ra.eval (.tmp 32) = .bool false := hs.2.1
                  clear hs
                  have hcb := reg.Ext.cell hx qbx
                  have hcp := reg.Ext.cell hx qp
                  refine reg.want_yes rfl rfl rfl s32 rfl ?_
                  change Oper.wp _ _ ra w' _ _
                  refine reg.wp_value (v := .bool false) (w' := w') ?_ ⟨_, rfl, reg.Ext.refl _, rfl⟩
                  intro ρ rc rf rg re
                  rw [re] at s34 s32
                  simp [execOp, go_sem, rc, rf, rg, s34, s32] <;> first | omega | rfl | decide
                · -- 9: slot 36 := Op.move t0
                  intro ra w' hx hs
                  have s0 : ra.eval (.tmp 0) = P p := hs.1
                  have s35 : ra.eval (.tmp 35) = .bool false := hs.2.1
                  clear hs
                  have hcb := reg.Ext.cell hx qbx
                  have hcp := reg.Ext.cell hx qp
                  exact reg.want_no rfl rfl rfl s35 (by decide) rfl
                · -- 10: slot 37 := Op.nilCheck t36
                  intro ra w' hx hs
                  have s36 : ra.eval (.tmp 36) = undef := hs.1
                  have s35 : ra.eval (.tmp 35) = .bool false := hs.2.1
                  clear hs
                  have hcb := reg.Ext.cell hx qbx
                  have hcp := reg.Ext.cell hx qp
                  exact reg.want_no rfl rfl rfl s35 (by decide) rfl
                · -- 11: slot 38 := Op.fieldAddr 38 t37 0
                  intro ra w' hx hs
                  have s37 : ra.eval (.tmp 37) = undef := hs.1
                  have s35 : ra.eval (.tmp 35) = .bool false := hs.2.1
                  clear hs
                  have hcb := reg.Ext.cell hx qbx
                  have hcp := reg.Ext.cell hx qp
                  exact reg.want_no rfl rfl rfl s35 (by decide) rfl
                · -- 12: slot 39 := Op.load 35 t38
                  intro ra w' hx hs
                  have s38 : ra.eval (.tmp 38) = undef := hs.1
                  have s35 : ra.eval (.tmp 35) = .bool false := hs.2.1
                  clear hs
                  have hcb := reg.Ext.cell hx qbx
                  have hcp := reg.Ext.cell hx qp
                  exact reg.want_no rfl rfl rfl s35 (by decide) rfl
                · -- 13: slot 40 := Op.move t6
                  intro ra w' hx hs
                  have s6 : ra.eval (.tmp 6) = .int .i64 best := hs.1
                  have s35 : ra.eval (.tmp 35) = .bool false := hs.2.1
                  clear hs
                  have hcb := reg.Ext.cell hx qbx
                  have hcp := reg.Ext.cell hx qp
                  exact reg.want_no rfl rfl rfl s35 (by decide) rfl
                · -- 14: slot 41 := Op.indexAddr 35 t39 t40
                  intro ra w' hx hs
                  have s39 : ra.eval (.tmp 39) = undef := hs.1
                  have s40 : ra.eval (.tmp 40) = undef := hs.2.1
                  have s35 : ra.eval (.tmp 35) = .bool false := hs.2.2.1
                  clear hs
                  have hcb := reg.Ext.cell hx qbx
                  have hcp := reg.Ext.cell hx qp
                  exact reg.want_no rfl rfl rfl s35 (by decide) rfl
                · -- 15: slot 42 := Op.fieldAddr 29 t41 0
                  intro ra w' hx hs
                  have s41 : ra.eval (.tmp 41) = undef := hs.1
                  have s35 : ra.eval (.tmp 35) = .bool false := hs.2.1
                  clear hs
                  have hcb := reg.Ext.cell hx qbx
                  have hcp := reg.Ext.cell hx qp
                  exact reg.want_no rfl rfl rfl s35 (by decide) rfl
                · -- 16: slot 43 := Op.load 9 t42
                  intro ra w' hx hs
                  have s42 : ra.eval (.tmp 42) = undef := hs.1
                  have s35 : ra.eval (.tmp 35) = .bool false := hs.2.1
                  clear hs
                  have hcb := reg.Ext.cell hx qbx
                  have hcp := reg.Ext.cell hx qp
                  exact reg.want_no rfl rfl rfl s35 (by decide) rfl
                · -- 17: slot 44 := Op.call { builtin len, args := #[t43], argTypes := #[9] }
                  intro ra w' hx hs
                  have s43 : ra.eval (.tmp 43) = undef := hs.1
                  have s35 : ra.eval (.tmp 35) = .bool false := hs.2.1
                  clear hs
                  have hcb := reg.Ext.cell hx qbx
                  have hcp := reg.Ext.cell hx qp
                  exact reg.want_no rfl rfl rfl s35 (by decide) rfl
                · -- 18: slot 45 := Op.fieldAddr 29 t8 0
                  intro ra w' hx hs
                  have s8 : ra.eval (.tmp 8) = .pointer (some ⟨bx, 0, none⟩) := hs.1
                  have s35 : ra.eval (.tmp 35) = .bool false := hs.2.1
                  clear hs
                  have hcb := reg.Ext.cell hx qbx
                  have hcp := reg.Ext.cell hx qp
                  exact reg.want_no rfl rfl rfl s35 (by decide) rfl
                · -- 19: slot 46 := Op.load 9 t45
                  intro ra w' hx hs
                  have s45 : ra.eval (.tmp 45) = undef := hs.1
                  have s35 : ra.eval (.tmp 35) = .bool false := hs.2.1
                  clear hs
                  have hcb := reg.Ext.cell hx qbx
                  have hcp := reg.Ext.cell hx qp
                  exact reg.want_no rfl rfl rfl s35 (by decide) rfl
                · -- 20: slot 47 := Op.call { builtin len, args := #[t46], argTypes := #[9] }
                  intro ra w' hx hs
                  have s46 : ra.eval (.tmp 46) = undef := hs.1
                  have s35 : ra.eval (.tmp 35) = .bool false := hs.2.1
                  clear hs
                  have hcb := reg.Ext.cell hx qbx
                  have hcp := reg.Ext.cell hx qp
                  exact reg.want_no rfl rfl rfl s35 (by decide) rfl
                · -- 21: slot 48 := Op.binOp BinOp.gtr 3 t44 t47 3
                  intro ra w' hx hs
                  have s44 : ra.eval (.tmp 44) = undef := hs.1
                  have s47 : ra.eval (.tmp 47) = undef := hs.2.1
                  have s35 : ra.eval (.tmp 35) = .bool false := hs.2.2.1
                  clear hs
                  have hcb := reg.Ext.cell hx qbx
                  have hcp := reg.Ext.cell hx qp
                  exact reg.want_no rfl rfl rfl s35 (by decide) rfl
                · -- 22: slot 49 := Op.pick t35 t48 (const (Value.bool false))
                  intro ra w' hx hs
                  have s35 : ra.eval (.tmp 35) = .bool false := hs.1
                  have s48 : ra.eval (.tmp 48) = undef := hs.2.1
                  have s32 : ra.eval (.tmp 32) = .bool false := hs.2.2.1
                  clear hs
                  have hcb := reg.Ext.cell hx qbx
                  have hcp := reg.Ext.cell hx qp
                  refine reg.want_yes rfl rfl rfl s32 rfl ?_
                  change Oper.wp _ _ ra w' _ _
                  refine reg.wp_value (v := .bool false) (w' := w') ?_ ⟨_, rfl, reg.Ext.refl _, rfl⟩
                  intro ρ rc rf rg re
                  rw [re] at s35 s48 s32
                  simp [execOp, go_sem, rc, rf, rg, s35, s48, s32] <;> first | omega | rfl | decide
                · -- 23: slot 50 := Op.pick t32 (const (Value.bool true)) t49
                  intro ra w' hx hs
                  have s32 : ra.eval (.tmp 32) = .bool false := hs.1
                  have s49 : ra.eval (.tmp 49) = .bool false := hs.2.1
                  clear hs
                  have hcb := reg.Ext.cell hx qbx
                  have hcp := reg.Ext.cell hx qp
                  change Oper.wp _ _ ra w' _ _
                  refine reg.wp_value (v := .bool false) (w' := w') ?_ ⟨_, rfl, reg.Ext.refl _, rfl⟩
                  intro ρ rc rf rg re
                  rw [re] at s32 s49
                  simp [execOp, go_sem, rc, rf, rg, s32, s49] <;> first | omega | rfl | decide
              intro rV w6 hx6 hf
              have ve0 : rV 0 = sv s := hf 0 (by decide)
              have ve1 : rV 1 = .pointer (some ⟨bx, 0, none⟩) := hf 1 (by decide)
              have ve2 : rV 2 = sv at1 := hf 2 (by decide)
              have ve3 : rV 3 = .bool true := hf 3 (by decide)
              have ve4 : rV 4 = .bool false := hf 4 (by decide)
              have ve5 : rV 5 = .bool false := hf 5 (by decide)
              have ve6 : rV 6 = .int .i64 best := hf 6 (by decide)
              have ve7 : rV 7 = .bool false := hf 7 (by decide)
              have ve8 : rV 8 = .bool false := hf 8 (by decide)
              have ve9 : rV 9 = undef := hf 9 (by decide)
              have ve10 : rV 10 = undef := hf 10 (by decide)
              have ve11 : rV 11 = undef := hf 11 (by decide)
              have ve12 : rV 12 = undef := hf 12 (by decide)
              have ve13 : rV 13 = undef := hf 13 (by decide)
              have ve14 : rV 14 = undef := hf 14 (by decide)
              have ve15 : rV 15 = undef := hf 15 (by decide)
              have ve16 : rV 16 = undef := hf 16 (by decide)
              have ve17 : rV 17 = undef := hf 17 (by decide)
              have ve18 : rV 18 = undef := hf 18 (by decide)
              have ve19 : rV 19 = undef := hf 19 (by decide)
              have ve20 : rV 20 = undef := hf 20 (by decide)
              have ve21 : rV 21 = undef := hf 21 (by decide)
              have ve22 : rV 22 = .bool false := hf 22 (by decide)
              have ve23 : rV 23 = .bool false := hf 23 (by decide)
              clear hf
              simp only [List.zipIdx_cons, List.zipIdx_nil, List.foldl_cons, List.foldl_nil, Act.put, Nat.reduceAdd, List.setIfInBounds_toArray, List.set_cons_succ, List.set_cons_zero, ve0, ve1, ve2, ve3, ve4, ve5, ve6, ve7, ve8, ve9, ve10, ve11, ve12, ve13, ve14, ve15, ve16, ve17, ve18, ve19, ve20, ve21, ve22, ve23]
              clear ve0 ve1 ve2 ve3 ve4 ve5 ve6 ve7 ve8 ve9 ve10 ve11 ve12 ve13 ve14 ve15 ve16 ve17 ve18 ve19 ve20 ve21 ve22 ve23
              clear rV
              have HB6 : Hid (Below w1.heap.size w1 w6) := HBW.out.trans ((show Below W1.heap.size W1 w6 from ⟨hx6.os, hx6.tape, hx6.output, hx6.size, hx6.block⟩).mono HBW.out.size)
              clear hx6
              go_wp2_with fail
              go_roundw
              case rel => exact ⟨j + 1, by omega, by go_num, by rw [HS2.out], HB6⟩
              case measure => simp [intOf]; omega
            · obtain ⟨k, rfl⟩ := Int.eq_ofNat_of_zero_le (show 0 ≤ best by omega)
              obtain ⟨mb, hmb⟩ : ∃ mb, ms[k]? = some mb := ⟨_, List.getElem?_eq_getElem (by omega)⟩
              have hki : (k : Int) < ms.length := by omega
              have qk := HCW.out _ _ (HCELL.out k mb hmb).1
              have hmbl := (HM.out mb (List.mem_of_getElem? hmb)).1
              obtain ⟨bb, hbb⟩ : ∃ bb : Bool, decide ((at1.length : Int) < (mb.at_.length : Int)) = bb := ⟨_, rfl⟩
              have hbb2 : decide (at1.length < mb.at_.length) = bb := by rw [← hbb]; simp
              have zm := str_size mb.at_
              have za := str_size at1
              have HS2 : Hid (bestOf ms s (j + 1) = if bb = true then (k : Int) else j) := by
                rw [Hid, HST.out, stepB, if_neg (by simp [hbl])]
                have e : lenAt ms ((k : Nat) : Int).toNat = mb.at_.length := by rw [lenAt, Int.toNat_natCast, hmb]
                rw [e, ← hbb]
                by_cases hx : at1.length < mb.at_.length
                · rw [if_pos ⟨by omega, hx⟩, if_pos (by rw [decide_eq_true_iff]; omega)]
                · rw [if_neg (fun h => hx h.2), if_neg (by rw [decide_eq_true_iff]; omega)]
              clear hmb hneg HCELL
              generalize mb.at_ = mat at *
              refine reg.region_each (by kernel_rfl) reg.Ext (fun ri v w' => match ri with
                  | 0 => v = sv s
                  | 1 => v = .pointer (some ⟨bx, 0, none⟩)
                  | 2 => v = sv at1
                  | 3 => v = .bool true
                  | 4 => v = .bool false
                  | 5 => v = .bool false
                  | 6 => v = .int .i64 k
                  | 7 => v = .bool true
                  | 8 => v = .bool true
                  | 9 => v = P p
                  | 10 => v = P p
                  | 11 => v = P p
                  | 12 => v = .slice (some ⟨g, 0, none⟩) ms.length c1
                  | 13 => v = .int .i64 k
                  | 14 => v = .pointer (some ⟨g, k * 3, none⟩)
                  | 15 => v = .pointer (some ⟨g, k * 3, none⟩)
                  | 16 => v = sv mat
                  | 17 => v = .int .i64 mat.length
                  | 18 => v = .pointer (some ⟨bx, 0, none⟩)
                  | 19 => v = sv at1
                  | 20 => v = .int .i64 at1.length
                  | 21 => v = .bool bb
                  | 22 => v = .bool bb
                  | 23 => v = .bool bb
                  | _ => True) reg.Ext.refl reg.Ext.trans ?_ (by kernel_rfl) ?_ ?_
              ·
                intro i v w1 w2 h hx
                rcases i with _|_|_|_|_|_|_|_|_|_|_|_|_|_|_|_|_|_|_|_|_|_|_|_|i
                · exact h
                · exact h
                · exact h
                · exact h
                · exact h
                · exact h
                · exact h
                · exact h
                · exact h
                · exact h
                · exact h
                · exact h
                · exact h
                · exact h
                · exact h
                · exact h
                · exact h
                · exact h
                · exact h
                · exact h
                · exact h
                · exact h
                · exact h
                · exact h
                · trivial
              ·
                refine ⟨?_, ?_, ?_, ?_, ?_, ?_, ?_, ?_, ?_, ?_, ?_, ?_, ?_, ?_, ?_, ?_, ?_, ?_, ?_, ?_, ?_, ?_, ?_, ?_, trivial⟩
                · -- 0: slot 27 := Op.move t1
                  intro ra w' hx hs
                  have s1 : ra.eval (.tmp 1) = sv s := hs.1
                  clear hs
                  have hcb := reg.Ext.cell hx qbx
                  have hcp := reg.Ext.cell hx qp
                  have hck := reg.Ext.cell hx qk
                  change Oper.wp _ _ ra w' _ _
                  refine reg.wp_value (v := sv s) (w' := w') ?_ ⟨_, rfl, reg.Ext.refl _, rfl⟩
                  intro ρ rc rf rg re
                  rw [re] at s1
                  simp [execOp, go_sem, rc, rf, rg, s1] <;> first | omega | rfl | decide
                · -- 1: slot 28 := Op.fieldAddr 29 t8 0
                  intro ra w' hx hs
                  have s8 : ra.eval (.tmp 8) = .pointer (some ⟨bx, 0, none⟩) := hs.1
                  clear hs
                  have hcb := reg.Ext.cell hx qbx
                  have hcp := reg.Ext.cell hx qp
                  have hck := reg.Ext.cell hx qk
                  change Oper.wp _ _ ra w' _ _
                  refine reg.wp_value (v := .pointer (some ⟨bx, 0, none⟩)) (w' := w') ?_ ⟨_, rfl, reg.Ext.refl _, rfl⟩
                  intro ρ rc rf rg re
                  rw [re] at s8
                  simp [execOp, go_sem, rc, rf, rg, s8] <;> first | omega | rfl | decide
                · -- 2: slot 29 := Op.load 9 t28
                  intro ra w' hx hs
                  have s28 : ra.eval (.tmp 28) = .pointer (some ⟨bx, 0, none⟩) := hs.1
                  clear hs
                  have hcb := reg.Ext.cell hx qbx
                  have hcp := reg.Ext.cell hx qp
                  have hck := reg.Ext.cell hx qk
                  change Oper.wp _ _ ra w' _ _
                  refine reg.wp_value (v := sv at1) (w' := w') ?_ ⟨_, rfl, reg.Ext.refl _, rfl⟩
                  intro ρ rc rf rg re
                  rw [re] at s28
                  simp [execOp, go_sem, rc, rf, rg, s28, hcb] <;> first | omega | rfl | decide
                · -- 3: slot 30 := Op.call { value (Operand.func 14), args := #[t27, t29], argTypes := #[9, 9] }
                  intro ra w' hx hs
                  have s27 : ra.eval (.tmp 27) = sv s := hs.1
                  have s29 : ra.eval (.tmp 29) = sv at1 := hs.2.1
                  clear hs
                  have hcb := reg.Ext.cell hx qbx
                  have hcp := reg.Ext.cell hx qp
                  have hck := reg.Ext.cell hx qk
                  change Oper.wp _ _ ra w' _ _
                  refine reg.wp_call (f := 14) (args := #[sv s, sv at1]) (w' := w') ?_ ((HBE.out w').mono ?_)
                  · intro ρ rc rf rg re
                    rw [re] at s27 s29
                    simp [execOp, go_sem, rc, rf, rg, s27, s29] <;> first | omega | rfl | decide
                  · rintro e w2 ⟨rfl, hb⟩
                    exact ⟨_, rfl, _, rfl, hb, rfl⟩
                · -- 4: slot 31 := Op.unOp UnOp.not 4 t30
                  intro ra w' hx hs
                  have s30 : ra.eval (.tmp 30) = .bool true := hs.1
                  clear hs
                  have hcb := reg.Ext.cell hx qbx
                  have hcp := reg.Ext.cell hx qp
                  have hck := reg.Ext.cell hx qk
                  change Oper.wp _ _ ra w' _ _
                  refine reg.wp_value (v := .bool false) (w' := w') ?_ ⟨_, rfl, reg.Ext.refl _, rfl⟩
                  intro ρ rc rf rg re
                  rw [re] at s30
                  simp [execOp, go_sem, rc, rf, rg, s30] <;> first | omega | rfl | decide
                · -- 5: slot 32 := Op.move t31
                  intro ra w' hx hs
                  have s31 : ra.eval (.tmp 31) = .bool false := hs.1
                  clear hs
                  have hcb := reg.Ext.cell hx qbx
                  have hcp := reg.Ext.cell hx qp
                  have hck := reg.Ext.cell hx qk
                  change Oper.wp _ _ ra w' _ _
                  refine reg.wp_value (v := .bool false) (w' := w') ?_ ⟨_, rfl, reg.Ext.refl _, rfl⟩
                  intro ρ rc rf rg re
                  rw [re] at s31
                  simp [execOp, go_sem, rc, rf, rg, s31] <;> first | omega | rfl | decide
                · -- 6: slot 33 := Op.move t6
                  intro ra w' hx hs
                  have s6 : ra.eval (.tmp 6) = .int .i64 k := hs.1
                  have s32 : ra.eval (.tmp 32) = .bool false := hs.2.1
                  clear hs
                  have hcb := reg.Ext.cell hx qbx
                  have hcp := reg.Ext.cell hx qp
                  have hck := reg.Ext.cell hx qk
                  refine reg.want_yes rfl rfl rfl s32 rfl ?_
                  change Oper.wp _ _ ra w' _ _
                  refine reg.wp_value (v := .int .i64 k) (w' := w') ?_ ⟨_, rfl, reg.Ext.refl _, rfl⟩
                  intro ρ rc rf rg re
                  rw [re] at s6 s32
                  simp [execOp, go_sem, rc, rf, rg, s6, s32] <;> first | omega | rfl | decide
                · -- 7: slot 34 := Op.binOp BinOp.geq 3 t33 (const (0:i64)) 3
                  intro ra w' hx hs
                  have s33 : ra.eval (.tmp 33) = .int .i64 k := hs.1
                  have s32 : ra.eval (.tmp 32) = .bool false := hs.2.1
                  clear hs
                  have hcb := reg.Ext.cell hx qbx
                  have hcp := reg.Ext.cell hx qp
                  have hck := reg.Ext.cell hx qk
                  refine reg.want_yes rfl rfl rfl s32 rfl ?_
                  change Oper.wp _ _ ra w' _ _
                  refine reg.wp_value (v := .bool true) (w' := w') ?_ ⟨_, rfl, reg.Ext.refl _, rfl⟩
                  intro ρ rc rf rg re
                  rw [re] at s33 s32
                  simp [execOp, go_sem, rc, rf, rg, s33, s32] <;> first | omega | rfl | decide
                · -- 8: slot 35 := Op.move t34
                  intro ra w' hx hs
                  have s34 : ra.eval (.tmp 34) = .bool true := hs.1
                  have s32 : ra.eval (.tmp 32) = .bool false := hs.2.1
                  clear hs
                  have hcb := reg.Ext.cell hx qbx
                  have hcp := reg.Ext.cell hx qp
                  have hck := reg.Ext.cell hx qk
                  refine reg.want_yes rfl rfl rfl s32 rfl ?_
                  change Oper.wp _ _ ra w' _ _
                  refine reg.wp_value (v := .bool true) (w' := w') ?_ ⟨_, rfl, reg.Ext.refl _, rfl⟩
                  intro ρ rc rf rg re
                  rw [re] at s34 s32
                  simp [execOp, go_sem, rc, rf, rg, s34, s32] <;> first | omega | rfl | decide
                · -- 9: slot 36 := Op.move t0
                  intro ra w' hx hs
                  have s0 : ra.eval (.tmp 0) = P p := hs.1
                  have s35 : ra.eval (.tmp 35) = .bool true := hs.2.1
                  clear hs
                  have hcb := reg.Ext.cell hx qbx
                  have hcp := reg.Ext.cell hx qp
                  have hck := reg.Ext.cell hx qk
                  refine reg.want_yes rfl rfl rfl s35 rfl ?_
                  change Oper.wp _ _ ra w' _ _
                  refine reg.wp_value (v := P p) (w' := w') ?_ ⟨_, rfl, reg.Ext.refl _, rfl⟩
                  intro ρ rc rf rg re
                  rw [re] at s0 s35
                  simp [execOp, go_sem, rc, rf, rg, s0, s35] <;> first | omega | rfl | decide
                · -- 10: slot 37 := Op.nilCheck t36
                  intro ra w' hx hs
                  have s36 : ra.eval (.tmp 36) = P p := hs.1
                  have s35 : ra.eval (.tmp 35) = .bool true := hs.2.1
                  clear hs
                  have hcb := reg.Ext.cell hx qbx
                  have hcp := reg.Ext.cell hx qp
                  have hck := reg.Ext.cell hx qk
                  refine reg.want_yes rfl rfl rfl s35 rfl ?_
                  change Oper.wp _ _ ra w' _ _
                  refine reg.wp_value (v := P p) (w' := w') ?_ ⟨_, rfl, reg.Ext.refl _, rfl⟩
                  intro ρ rc rf rg re
                  rw [re] at s36 s35
                  simp [execOp, go_sem, rc, rf, rg, s36, s35] <;> first | omega | rfl | decide
                · -- 11: slot 38 := Op.fieldAddr 38 t37 0
                  intro ra w' hx hs
                  have s37 : ra.eval (.tmp 37) = P p := hs.1
                  have s35 : ra.eval (.tmp 35) = .bool true := hs.2.1
                  clear hs
                  have hcb := reg.Ext.cell hx qbx
                  have hcp := reg.Ext.cell hx qp
                  have hck := reg.Ext.cell hx qk
                  refine reg.want_yes rfl rfl rfl s35 rfl ?_
                  change Oper.wp _ _ ra w' _ _
                  refine reg.wp_value (v := P p) (w' := w') ?_ ⟨_, rfl, reg.Ext.refl _, rfl⟩
                  intro ρ rc rf rg re
                  rw [re] at s37 s35
                  simp [execOp, go_sem, rc, rf, rg, s37, s35] <;> first | omega | rfl | decide
                · -- 12: slot 39 := Op.load 35 t38
                  intro ra w' hx hs
                  have s38 : ra.eval (.tmp 38) = P p := hs.1
                  have s35 : ra.eval (.tmp 35) = .bool true := hs.2.1
                  clear hs
                  have hcb := reg.Ext.cell hx qbx
                  have hcp := reg.Ext.cell hx qp
                  have hck := reg.Ext.cell hx qk
                  refine reg.want_yes rfl rfl rfl s35 rfl ?_
                  change Oper.wp _ _ ra w' _ _
                  refine reg.wp_value (v := .slice (some ⟨g, 0, none⟩) ms.length c1) (w' := w') ?_ ⟨_, rfl, reg.Ext.refl _, rfl⟩
                  intro ρ rc rf rg re
                  rw [re] at s38 s35
                  simp [execOp, go_sem, rc, rf, rg, s38, s35, hcp] <;> first | omega | rfl | decide
                · -- 13: slot 40 := Op.move t6
                  intro ra w' hx hs
                  have s6 : ra.eval (.tmp 6) = .int .i64 k := hs.1
                  have s35 : ra.eval (.tmp 35) = .bool true := hs.2.1
                  clear hs
                  have hcb := reg.Ext.cell hx qbx
                  have hcp := reg.Ext.cell hx qp
                  have hck := reg.Ext.cell hx qk
                  refine reg.want_yes rfl rfl rfl s35 rfl ?_
                  change Oper.wp _ _ ra w' _ _
                  refine reg.wp_value (v := .int .i64 k) (w' := w') ?_ ⟨_, rfl, reg.Ext.refl _, rfl⟩
                  intro ρ rc rf rg re
                  rw [re] at s6 s35
                  simp [execOp, go_sem, rc, rf, rg, s6, s35] <;> first | omega | rfl | decide
                · -- 14: slot 41 := Op.indexAddr 35 t39 t40
                  intro ra w' hx hs
                  have s39 : ra.eval (.tmp 39) = .slice (some ⟨g, 0, none⟩) ms.length c1 := hs.1
                  have s40 : ra.eval (.tmp 40) = .int .i64 k := hs.2.1
                  have s35 : ra.eval (.tmp 35) = .bool true := hs.2.2.1
                  clear hs
                  have hcb := reg.Ext.cell hx qbx
                  have hcp := reg.Ext.cell hx qp
                  have hck := reg.Ext.cell hx qk
                  refine reg.want_yes rfl rfl rfl s35 rfl ?_
                  change Oper.wp _ _ ra w' _ _
                  refine reg.wp_value (v := .pointer (some ⟨g, k * 3, none⟩)) (w' := w') ?_ ⟨_, rfl, reg.Ext.refl _, rfl⟩
                  intro ρ rc rf rg re
                  rw [re] at s39 s40 s35
                  simp [execOp, go_sem, rc, rf, rg, s39, s40, s35, hki] <;> first | omega | rfl | decide
                · -- 15: slot 42 := Op.fieldAddr 29 t41 0
                  intro ra w' hx hs
                  have s41 : ra.eval (.tmp 41) = .pointer (some ⟨g, k * 3, none⟩) := hs.1
                  have s35 : ra.eval (.tmp 35) = .bool true := hs.2.1
                  clear hs
                  have hcb := reg.Ext.cell hx qbx
                  have hcp := reg.Ext.cell hx qp
                  have hck := reg.Ext.cell hx qk
                  refine reg.want_yes rfl rfl rfl s35 rfl ?_
                  change Oper.wp _ _ ra w' _ _
                  refine reg.wp_value (v := .pointer (some ⟨g, k * 3, none⟩)) (w' := w') ?_ ⟨_, rfl, reg.Ext.refl _, rfl⟩
                  intro ρ rc rf rg re
                  rw [re] at s41 s35
                  simp [execOp, go_sem, rc, rf, rg, s41, s35] <;> first | omega | rfl | decide
                · -- 16: slot 43 := Op.load 9 t42
                  intro ra w' hx hs
                  have s42 : ra.eval (.tmp 42) = .pointer (some ⟨g, k * 3, none⟩) := hs.1
                  have s35 : ra.eval (.tmp 35) = .bool true := hs.2.1
                  clear hs
                  have hcb := reg.Ext.cell hx qbx
                  have hcp := reg.Ext.cell hx qp
                  have hck := reg.Ext.cell hx qk
                  refine reg.want_yes rfl rfl rfl s35 rfl ?_
                  change Oper.wp _ _ ra w' _ _
                  refine reg.wp_value (v := sv mat) (w' := w') ?_ ⟨_, rfl, reg.Ext.refl _, rfl⟩
                  intro ρ rc rf rg re
                  rw [re] at s42 s35
                  simp [execOp, go_sem, rc, rf, rg, s42, s35, hck] <;> first | omega | rfl | decide
                · -- 17: slot 44 := Op.call { builtin len, args := #[t43], argTypes := #[9] }
                  intro ra w' hx hs
                  have s43 : ra.eval (.tmp 43) = sv mat := hs.1
                  have s35 : ra.eval (.tmp 35) = .bool true := hs.2.1
                  clear hs
                  have hcb := reg.Ext.cell hx qbx
                  have hcp := reg.Ext.cell hx qp
                  have hck := reg.Ext.cell hx qk
                  refine reg.want_yes rfl rfl rfl s35 rfl ?_
                  change Oper.wp _ _ ra w' _ _
                  refine reg.wp_value (v := .int .i64 mat.length) (w' := w') ?_ ⟨_, rfl, reg.Ext.refl _, rfl⟩
                  intro ρ rc rf rg re
                  rw [re] at s43 s35
                  simp [execOp, go_sem, rc, rf, rg, s43, s35, zm] <;> first | omega | rfl | decide
                · -- 18: slot 45 := Op.fieldAddr 29 t8 0
                  intro ra w' hx hs
                  have s8 : ra.eval (.tmp 8) = .pointer (some ⟨bx, 0, none⟩) := hs.1
                  have s35 : ra.eval (.tmp 35) = .bool true := hs.2.1
                  clear hs
                  have hcb := reg.Ext.cell hx qbx
                  have hcp := reg.Ext.cell hx qp
                  have hck := reg.Ext.cell hx qk
                  refine reg.want_yes rfl rfl rfl s35 rfl ?_
                  change Oper.wp _ _ ra w' _ _
                  refine reg.wp_value (v := .pointer (some ⟨bx, 0, none⟩)) (w' := w') ?_ ⟨_, rfl, reg.Ext.refl _, rfl⟩
                  intro ρ rc rf rg re
                  rw [re] at s8 s35
                  simp [execOp, go_sem, rc, rf, rg, s8, s35] <;> first | omega | rfl | decide
                · -- 19: slot 46 := Op.load 9 t45
                  intro ra w' hx hs
                  have s45 : ra.eval (.tmp 45) = .pointer (some ⟨bx, 0, none⟩) := hs.1
                  have s35 : ra.eval (.tmp 35) = .bool true := hs.2.1
                  clear hs
                  have hcb := reg.Ext.cell hx qbx
                  have hcp := reg.Ext.cell hx qp
                  have hck := reg.Ext.cell hx qk
                  refine reg.want_yes rfl rfl rfl s35 rfl ?_
                  change Oper.wp _ _ ra w' _ _
                  refine reg.wp_value (v := sv at1) (w' := w') ?_ ⟨_, rfl, reg.Ext.refl _, rfl⟩
                  intro ρ rc rf rg re
                  rw [re] at s45 s35
                  simp [execOp, go_sem, rc, rf, rg, s45, s35, hcb] <;> first | omega | rfl | decide
                · -- 20: slot 47 := Op.call { builtin len, args := #[t46], argTypes := #[9] }
                  intro ra w' hx hs
                  have s46 : ra.eval (.tmp 46) = sv at1 := hs.1
                  have s35 : ra.eval (.tmp 35) = .bool true := hs.2.1
                  clear hs
                  have hcb := reg.Ext.cell hx qbx
                  have hcp := reg.Ext.cell hx qp
                  have hck := reg.Ext.cell hx qk
                  refine reg.want_yes rfl rfl rfl s35 rfl ?_
                  change Oper.wp _ _ ra w' _ _
                  refine reg.wp_value (v := .int .i64 at1.length) (w' := w') ?_ ⟨_, rfl, reg.Ext.refl _, rfl⟩
                  intro ρ rc rf rg re
                  rw [re] at s46 s35
                  simp [execOp, go_sem, rc, rf, rg, s46, s35, za] <;> first | omega | rfl | decide
                · -- 21: slot 48 := Op.binOp BinOp.gtr 3 t44 t47 3
                  intro ra w' hx hs
                  have s44 : ra.eval (.tmp 44) = .int .i64 mat.length := hs.1
                  have s47 : ra.eval (.tmp 47) = .int .i64 at1.length := hs.2.1
                  have s35 : ra.eval (.tmp 35) = .bool true := hs.2.2.1
                  clear hs
                  have hcb := reg.Ext.cell hx qbx
                  have hcp := reg.Ext.cell hx qp
                  have hck := reg.Ext.cell hx qk
                  refine reg.want_yes rfl rfl rfl s35 rfl ?_
                  change Oper.wp _ _ ra w' _ _
                  refine reg.wp_value (v := .bool bb) (w' := w') ?_ ⟨_, rfl, reg.Ext.refl _, rfl⟩
                  intro ρ rc rf rg re
                  rw [re] at s44 s47 s35
                  simp [execOp, go_sem, rc, rf, rg, s44, s47, s35, hbb2] <;> first | omega | rfl | decide
                · -- 22: slot 49 := Op.pick t35 t48 (const (Value.bool false))
                  intro ra w' hx hs
                  have s35 : ra.eval (.tmp 35) = .bool true := hs.1
                  have s48 : ra.eval (.tmp 48) = .bool bb := hs.2.1
                  have s32 : ra.eval (.tmp 32) = .bool false := hs.2.2.1
                  clear hs
                  have hcb := reg.Ext.cell hx qbx
                  have hcp := reg.Ext.cell hx qp
                  have hck := reg.Ext.cell hx qk
                  refine reg.want_yes rfl rfl rfl s32 rfl ?_
                  change Oper.wp _ _ ra w' _ _
                  refine reg.wp_value (v := .bool bb) (w' := w') ?_ ⟨_, rfl, reg.Ext.refl _, rfl⟩
                  intro ρ rc rf rg re
                  rw [re] at s35 s48 s32
                  simp [execOp, go_sem, rc, rf, rg, s35, s48, s32] <;> first | omega | rfl | decide
                · -- 23: slot 50 := Op.pick t32 (const (Value.bool true)) t49
                  intro ra w' hx hs
                  have s32 : ra.eval (.tmp 32) = .bool false := hs.1
                  have s49 : ra.eval (.tmp 49) = .bool bb := hs.2.1
                  clear hs
                  have hcb := reg.Ext.cell hx qbx
                  have hcp := reg.Ext.cell hx qp
                  have hck := reg.Ext.cell hx qk
                  change Oper.wp _ _ ra w' _ _
                  refine reg.wp_value (v := .bool bb) (w' := w') ?_ ⟨_, rfl, reg.Ext.refl _, rfl⟩
                  intro ρ rc rf rg re
                  rw [re] at s32 s49
                  simp [execOp, go_sem, rc, rf, rg, s32, s49] <;> first | omega | rfl | decide
              intro rV w6 hx6 hf
              have ve0 : rV 0 = sv s := hf 0 (by decide)
              have ve1 : rV 1 = .pointer (some ⟨bx, 0, none⟩) := hf 1 (by decide)
              have ve2 : rV 2 = sv at1 := hf 2 (by decide)
              have ve3 : rV 3 = .bool true := hf 3 (by decide)
              have ve4 : rV 4 = .bool false := hf 4 (by decide)
              have ve5 : rV 5 = .bool false := hf 5 (by decide)
              have ve6 : rV 6 = .int .i64 k := hf 6 (by decide)
              have ve7 : rV 7 = .bool true := hf 7 (by decide)
              have ve8 : rV 8 = .bool true := hf 8 (by decide)
              have ve9 : rV 9 = P p := hf 9 (by decide)
              have ve10 : rV 10 = P p := hf 10 (by decide)
              have ve11 : rV 11 = P p := hf 11 (by decide)
              have ve12 : rV 12 = .slice (some ⟨g, 0, none⟩) ms.length c1 := hf 12 (by decide)
              have ve13 : rV 13 = .int .i64 k := hf 13 (by decide)
              have ve14 : rV 14 = .pointer (some ⟨g, k * 3, none⟩) := hf 14 (by decide)
              have ve15 : rV 15 = .pointer (some ⟨g, k * 3, none⟩) := hf 15 (by decide)
              have ve16 : rV 16 = sv mat := hf 16 (by decide)
              have ve17 : rV 17 = .int .i64 mat.length := hf 17 (by decide)
              have ve18 : rV 18 = .pointer (some ⟨bx, 0, none⟩) := hf 18 (by decide)
              have ve19 : rV 19 = sv at1 := hf 19 (by decide)
              have ve20 : rV 20 = .int .i64 at1.length := hf 20 (by decide)
              have ve21 : rV 21 = .bool bb := hf 21 (by decide)
              have ve22 : rV 22 = .bool bb := hf 22 (by decide)
              have ve23 : rV 23 = .bool bb := hf 23 (by decide)
              clear hf
              simp only [List.zipIdx_cons, List.zipIdx_nil, List.foldl_cons, List.foldl_nil, Act.put, Nat.reduceAdd, List.setIfInBounds_toArray, List.set_cons_succ, List.set_cons_zero, ve0, ve1, ve2, ve3, ve4, ve5, ve6, ve7, ve8, ve9, ve10, ve11, ve12, ve13, ve14, ve15, ve16, ve17, ve18, ve19, ve20, ve21, ve22, ve23]
              clear ve0 ve1 ve2 ve3 ve4 ve5 ve6 ve7 ve8 ve9 ve10 ve11 ve12 ve13 ve14 ve15 ve16 ve17 ve18 ve19 ve20 ve21 ve22 ve23
              clear rV
              have HB6 : Hid (Below w1.heap.size w1 w6) := HBW.out.trans ((show Below W1.heap.size W1 w6 from ⟨hx6.os, hx6.tape, hx6.output, hx6.size, hx6.block⟩).mono HBW.out.size)
              clear hx6 hbb hbb2
              cases bb with
              | true =>
                go_wp2_with fail
                go_roundw
                case rel => exact ⟨j + 1, by omega, by go_num, by rw [HS2.out]; rfl, HB6⟩
                case measure => simp [intOf]; omega
              | false =>
                go_wp2_with fail
                go_roundw
                case rel => exact ⟨j + 1, by omega, by go_num, by rw [HS2.out]; rfl, HB6⟩
                case measure => simp [intOf]; omega
      · obtain rfl : j = ms.length := by omega
        have HBB := Lib.hid (bestOf_below ms s ms.length)
        generalize bestOf ms s ms.length = best at *
        by_cases hneg : best < 0
        · obtain rfl : R = (s, false) := by rw [HR2.out, if_pos hneg]
          have HBF : Hid (Below w.heap.size w wr) := HB1.out.trans (HW.out.mono HB1.out.size)
          go_wp2_with fail
          repeat rw [Exit.noGoto_ret]
          first | go_ret | go_ret2
          exact ⟨rfl, HBF.out⟩
        · obtain ⟨k, rfl⟩ := Int.eq_ofNat_of_zero_le (show 0 ≤ best by omega)
          obtain ⟨m, hm, hbm⟩ := HBB.out k rfl
          have hml := below_len s m.at_ hbm
          have hmf := HM.out m (List.mem_of_getElem? hm)
          have hR : R = (pJoin m.fr (s.drop (m.at_.length + 1)), m.on) := by rw [HR2.out, if_neg hneg, Int.toNat_natCast, hm]
          have HR3 := Lib.hid hR
          rcases (HROW.out.below HW.out).cells with ⟨-, hw⟩ | ⟨g, c', hv', hgl, hgb, hc1, hc2, hcell⟩
          · rw [hw] at hm; simp at hm
          · simp only [Value.slice.injEq] at hv'
            obtain ⟨rfl, -, rfl⟩ := hv'
            obtain ⟨e0, e1, e2⟩ := hcell _ m hm
            have hki : (k : Int) < ms.length := by omega
            have qp : wr.cell? ⟨p, 0, none⟩ = some (.slice (some ⟨g, 0, none⟩) ms.length c1) := by
              rw [blk_cell ((HW.out.block p (blk_lt HP.out)).trans HP.out)]; rfl
            obtain ⟨at1, fr1, on1⟩ := m
            simp only at e0 e1 e2 hml hmf HR3 hbm
            have HBF : Hid (Below w.heap.size w wr) := HB1.out.trans (HW.out.mono HB1.out.size)
            have z1 := str_size at1
            have zi : (at1.length : Int) ≤ s.length := by omega
            have hex : (⟨s.toArray⟩ : ByteArray).extract at1.length s.length = ⟨(s.drop at1.length).toArray⟩ := drop_str s at1.length
            have hdd : s.drop (at1.length + 1) = (s.drop at1.length).drop 1 := by rw [List.drop_drop]
            have hrl : (s.drop at1.length).length ≤ 1000000 := by simp; omega
            rw [hdd] at HR3
            generalize s.drop at1.length = rst at *
            have HJO := Lib.hid (fun W : World => pJoin_any fr1 (rst.drop 1) W (by simp; omega))
            generalize pJoin fr1 (rst.drop 1) = jn at *
            have hz2 := str_size rst
            unfold maxLen at hc2
            clear hcell hm hR HR2 hbm hneg hdd
            by_cases h0 : rst = []
            · subst h0
              simp only [List.drop_nil] at HJO
              go_wp2_with fail
              have hbx : (wr.alloc (.cells #[sv at1, sv fr1, .bool on1] 29 (0, 0))).heap[wr.heap.size]? = some (.cells #[sv at1, sv fr1, .bool on1] 29 (0, 0)) := blk_new _ _
              have HBW : Hid (Below w.heap.size w (wr.alloc (.cells #[sv at1, sv fr1, .bool on1] 29 (0, 0)))) := HBF.out.alloc HBF.out.size _
              generalize wr.alloc (.cells #[sv at1, sv fr1, .bool on1] 29 (0, 0)) = W1 at *
              generalize wr.heap.size = bx at *
              have qb1 : W1.cell? ⟨bx, 1, none⟩ = some (sv fr1) := by rw [blk_cell hbx]; rfl
              have qb2 : W1.cell? ⟨bx, 2, none⟩ = some (.bool on1) := by rw [blk_cell hbx]; rfl
              clear hbx
              refine reg.region_each (by kernel_rfl) reg.Ext (fun ri v w' => match ri with
                  | 0 => v = .pointer (some ⟨bx, 1, none⟩)
                  | 1 => v = sv fr1
                  | 2 => v = .string ⟨#[]⟩
                  | 3 => v = sv jn
                  | 4 => v = .pointer (some ⟨bx, 2, none⟩)
                  | 5 => v = .bool on1
                  | 6 => v = sv jn
                  | 7 => v = .bool on1
                  | _ => True) reg.Ext.refl reg.Ext.trans ?_ (by kernel_rfl) ?_ ?_
              ·
                intro i v w1 w2 h hx
                rcases i with _|_|_|_|_|_|_|_|i
                · exact h
                · exact h
                · exact h
                · exact h
                · exact h
                · exact h
                · exact h
                · exact h
                · trivial
              ·
                refine ⟨?_, ?_, ?_, ?_, ?_, ?_, ?_, ?_, trivial⟩
                · -- 0: slot 72 := Op.fieldAddr 29 t9 1
                  intro ra w' hx hs
                  have s9 : ra.eval (.tmp 9) = .pointer (some ⟨bx, 0, none⟩) := hs.1
                  clear hs
                  have hcb1 := reg.Ext.cell hx qb1
                  have hcb2 := reg.Ext.cell hx qb2
                  change Oper.wp _ _ ra w' _ _
                  refine reg.wp_value (v := .pointer (some ⟨bx, 1, none⟩)) (w' := w') ?_ ⟨_, rfl, reg.Ext.refl _, rfl⟩
                  intro ρ rc rf rg re
                  rw [re] at s9
                  simp [execOp, go_sem, rc, rf, rg, s9] <;> first | omega | rfl | decide
                · -- 1: slot 73 := Op.load 9 t72
                  intro ra w' hx hs
                  have s72 : ra.eval (.tmp 72) = .pointer (some ⟨bx, 1, none⟩) := hs.1
                  clear hs
                  have hcb1 := reg.Ext.cell hx qb1
                  have hcb2 := reg.Ext.cell hx qb2
                  change Oper.wp _ _ ra w' _ _
                  refine reg.wp_value (v := sv fr1) (w' := w') ?_ ⟨_, rfl, reg.Ext.refl _, rfl⟩
                  intro ρ rc rf rg re
                  rw [re] at s72
                  simp [execOp, go_sem, rc, rf, rg, s72, hcb1] <;> first | omega | rfl | decide
                · -- 2: slot 74 := Op.move t10
                  intro ra w' hx hs
                  have s10 : ra.eval (.tmp 10) = .string ⟨#[]⟩ := hs.1
                  clear hs
                  have hcb1 := reg.Ext.cell hx qb1
                  have hcb2 := reg.Ext.cell hx qb2
                  change Oper.wp _ _ ra w' _ _
                  refine reg.wp_value (v := .string ⟨#[]⟩) (w' := w') ?_ ⟨_, rfl, reg.Ext.refl _, rfl⟩
                  intro ρ rc rf rg re
                  rw [re] at s10
                  simp [execOp, go_sem, rc, rf, rg, s10] <;> first | omega | rfl | decide
                · -- 3: slot 75 := Op.call { value (Operand.func 16), args := #[t73, t74], argTypes := #[9, 9] }
                  intro ra w' hx hs
                  have s73 : ra.eval (.tmp 73) = sv fr1 := hs.1
                  have s74 : ra.eval (.tmp 74) = .string ⟨#[]⟩ := hs.2.1
                  clear hs
                  have hcb1 := reg.Ext.cell hx qb1
                  have hcb2 := reg.Ext.cell hx qb2
                  change Oper.wp _ _ ra w' _ _
                  refine reg.wp_call (f := 16) (args := #[sv fr1, .string ⟨#[]⟩]) (w' := w') ?_ ((HJO.out w').mono ?_)
                  · intro ρ rc rf rg re
                    rw [re] at s73 s74
                    simp [execOp, go_sem, rc, rf, rg, s73, s74] <;> first | omega | rfl | decide
                  · rintro e w2 ⟨rfl, hb⟩
                    exact ⟨_, rfl, _, rfl, hb, rfl⟩
                · -- 4: slot 76 := Op.fieldAddr 29 t9 2
                  intro ra w' hx hs
                  have s9 : ra.eval (.tmp 9) = .pointer (some ⟨bx, 0, none⟩) := hs.1
                  clear hs
                  have hcb1 := reg.Ext.cell hx qb1
                  have hcb2 := reg.Ext.cell hx qb2
                  change Oper.wp _ _ ra w' _ _
                  refine reg.wp_value (v := .pointer (some ⟨bx, 2, none⟩)) (w' := w') ?_ ⟨_, rfl, reg.Ext.refl _, rfl⟩
                  intro ρ rc rf rg re
                  rw [re] at s9
                  simp [execOp, go_sem, rc, rf, rg, s9] <;> first | omega | rfl | decide
                · -- 5: slot 77 := Op.load 4 t76
                  intro ra w' hx hs
                  have s76 : ra.eval (.tmp 76) = .pointer (some ⟨bx, 2, none⟩) := hs.1
                  clear hs
                  have hcb1 := reg.Ext.cell hx qb1
                  have hcb2 := reg.Ext.cell hx qb2
                  change Oper.wp _ _ ra w' _ _
                  refine reg.wp_value (v := .bool on1) (w' := w') ?_ ⟨_, rfl, reg.Ext.refl _, rfl⟩
                  intro ρ rc rf rg re
                  rw [re] at s76
                  simp [execOp, go_sem, rc, rf, rg, s76, hcb2] <;> first | omega | rfl | decide
                · -- 6: slot 4 := Op.assign t75
                  intro ra w' hx hs
                  have s75 : ra.eval (.tmp 75) = sv jn := hs.1
                  clear hs
                  have hcb1 := reg.Ext.cell hx qb1
                  have hcb2 := reg.Ext.cell hx qb2
                  change Oper.wp _ _ ra w' _ _
                  refine reg.wp_value (v := sv jn) (w' := w') ?_ ⟨_, rfl, reg.Ext.refl _, rfl⟩
                  intro ρ rc rf rg re
                  rw [re] at s75
                  simp [execOp, go_sem, rc, rf, rg, s75] <;> first | omega | rfl | decide
                · -- 7: slot 5 := Op.assign t77
                  intro ra w' hx hs
                  have s77 : ra.eval (.tmp 77) = .bool on1 := hs.1
                  clear hs
                  have hcb1 := reg.Ext.cell hx qb1
                  have hcb2 := reg.Ext.cell hx qb2
                  change Oper.wp _ _ ra w' _ _
                  refine reg.wp_value (v := .bool on1) (w' := w') ?_ ⟨_, rfl, reg.Ext.refl _, rfl⟩
                  intro ρ rc rf rg re
                  rw [re] at s77
                  simp [execOp, go_sem, rc, rf, rg, s77] <;> first | omega | rfl | decide
              intro rV w6 hx6 hf
              have ve0 : rV 0 = .pointer (some ⟨bx, 1, none⟩) := hf 0 (by decide)
              have ve1 : rV 1 = sv fr1 := hf 1 (by decide)
              have ve2 : rV 2 = .string ⟨#[]⟩ := hf 2 (by decide)
              have ve3 : rV 3 = sv jn := hf 3 (by decide)
              have ve4 : rV 4 = .pointer (some ⟨bx, 2, none⟩) := hf 4 (by decide)
              have ve5 : rV 5 = .bool on1 := hf 5 (by decide)
              have ve6 : rV 6 = sv jn := hf 6 (by decide)
              have ve7 : rV 7 = .bool on1 := hf 7 (by decide)
              clear hf
              simp only [List.zipIdx_cons, List.zipIdx_nil, List.foldl_cons, List.foldl_nil, Act.put, Nat.reduceAdd, List.setIfInBounds_toArray, List.set_cons_succ, List.set_cons_zero, ve0, ve1, ve2, ve3, ve4, ve5, ve6, ve7]
              clear ve0 ve1 ve2 ve3 ve4 ve5 ve6 ve7
              clear rV
              have HB6 : Hid (Below w.heap.size w w6) := HBW.out.trans ((show Below W1.heap.size W1 w6 from ⟨hx6.os, hx6.tape, hx6.output, hx6.size, hx6.block⟩).mono HBW.out.size)
              clear hx6
              go_wp2_with fail
              repeat rw [Exit.noGoto_ret]
              first | go_ret | go_ret2
              exact ⟨by rw [HR3.out]; rfl, HB6.out⟩
            · have b0 : rst.isEmpty = false := by cases rst <;> simp_all
              have b0' : (rst == []) = false := by rw [beq_eq_false_iff_ne]; exact h0
              have hpos : (1 : Int) ≤ rst.length := by have := List.length_pos_iff.2 h0; omega
              have hex2 : (⟨rst.toArray⟩ : ByteArray).extract 1 rst.length = ⟨(rst.drop 1).toArray⟩ := drop_str rst 1
              generalize rst.drop 1 = r2 at *
              clear h0
              go_wp2_with fail
              have hbx : (wr.alloc (.cells #[sv at1, sv fr1, .bool on1] 29 (0, 0))).heap[wr.heap.size]? = some (.cells #[sv at1, sv fr1, .bool on1] 29 (0, 0)) := blk_new _ _
              have HBW : Hid (Below w.heap.size w (wr.alloc (.cells #[sv at1, sv fr1, .bool on1] 29 (0, 0)))) := HBF.out.alloc HBF.out.size _
              generalize wr.alloc (.cells #[sv at1, sv fr1, .bool on1] 29 (0, 0)) = W1 at *
              generalize wr.heap.size = bx at *
              have qb1 : W1.cell? ⟨bx, 1, none⟩ = some (sv fr1) := by rw [blk_cell hbx]; rfl
              have qb2 : W1.cell? ⟨bx, 2, none⟩ = some (.bool on1) := by rw [blk_cell hbx]; rfl
              clear hbx
              refine reg.region_each (by kernel_rfl) reg.Ext (fun ri v w' => match ri with
                  | 0 => v = .pointer (some ⟨bx, 1, none⟩)
                  | 1 => v = sv fr1
                  | 2 => v = sv r2
                  | 3 => v = sv jn
                  | 4 => v = .pointer (some ⟨bx, 2, none⟩)
                  | 5 => v = .bool on1
                  | 6 => v = sv jn
                  | 7 => v = .bool on1
                  | _ => True) reg.Ext.refl reg.Ext.trans ?_ (by kernel_rfl) ?_ ?_
              ·
                intro i v w1 w2 h hx
                rcases i with _|_|_|_|_|_|_|_|i
                · exact h
                · exact h
                · exact h
                · exact h
                · exact h
                · exact h
                · exact h
                · exact h
                · trivial
              ·
                refine ⟨?_, ?_, ?_, ?_, ?_, ?_, ?_, ?_, trivial⟩
                · -- 0: slot 72 := Op.fieldAddr 29 t9 1
                  intro ra w' hx hs
                  have s9 : ra.eval (.tmp 9) = .pointer (some ⟨bx, 0, none⟩) := hs.1
                  clear hs
                  have hcb1 := reg.Ext.cell hx qb1
                  have hcb2 := reg.Ext.cell hx qb2
                  change Oper.wp _ _ ra w' _ _
                  refine reg.wp_value (v := .pointer (some ⟨bx, 1, none⟩)) (w' := w') ?_ ⟨_, rfl, reg.Ext.refl _, rfl⟩
                  intro ρ rc rf rg re
                  rw [re] at s9
                  simp [execOp, go_sem, rc, rf, rg, s9] <;> first | omega | rfl | decide
                · -- 1: slot 73 := Op.load 9 t72
                  intro ra w' hx hs
                  have s72 : ra.eval (.tmp 72) = .pointer (some ⟨bx, 1, none⟩) := hs.1
                  clear hs
                  have hcb1 := reg.Ext.cell hx qb1
                  have hcb2 := reg.Ext.cell hx qb2
                  change Oper.wp _ _ ra w' _ _
                  refine reg.wp_value (v := sv fr1) (w' := w') ?_ ⟨_, rfl, reg.Ext.refl _, rfl⟩
                  intro ρ rc rf rg re
                  rw [re] at s72
                  simp [execOp, go_sem, rc, rf, rg, s72, hcb1] <;> first | omega | rfl | decide
                · -- 2: slot 74 := Op.move t10
                  intro ra w' hx hs
                  have s10 : ra.eval (.tmp 10) = sv r2 := hs.1
                  clear hs
                  have hcb1 := reg.Ext.cell hx qb1
                  have hcb2 := reg.Ext.cell hx qb2
                  change Oper.wp _ _ ra w' _ _
                  refine reg.wp_value (v := sv r2) (w' := w') ?_ ⟨_, rfl, reg.Ext.refl _, rfl⟩
                  intro ρ rc rf rg re
                  rw [re] at s10
                  simp [execOp, go_sem, rc, rf, rg, s10] <;> first | omega | rfl | decide
                · -- 3: slot 75 := Op.call { value (Operand.func 16), args := #[t73, t74], argTypes := #[9, 9] }
                  intro ra w' hx hs
                  have s73 : ra.eval (.tmp 73) = sv fr1 := hs.1
                  have s74 : ra.eval (.tmp 74) = sv r2 := hs.2.1
                  clear hs
                  have hcb1 := reg.Ext.cell hx qb1
                  have hcb2 := reg.Ext.cell hx qb2
                  change Oper.wp _ _ ra w' _ _
                  refine reg.wp_call (f := 16) (args := #[sv fr1, sv r2]) (w' := w') ?_ ((HJO.out w').mono ?_)
                  · intro ρ rc rf rg re
                    rw [re] at s73 s74
                    simp [execOp, go_sem, rc, rf, rg, s73, s74] <;> first | omega | rfl | decide
                  · rintro e w2 ⟨rfl, hb⟩
                    exact ⟨_, rfl, _, rfl, hb, rfl⟩
                · -- 4: slot 76 := Op.fieldAddr 29 t9 2
                  intro ra w' hx hs
                  have s9 : ra.eval (.tmp 9) = .pointer (some ⟨bx, 0, none⟩) := hs.1
                  clear hs
                  have hcb1 := reg.Ext.cell hx qb1
                  have hcb2 := reg.Ext.cell hx qb2
                  change Oper.wp _ _ ra w' _ _
                  refine reg.wp_value (v := .pointer (some ⟨bx, 2, none⟩)) (w' := w') ?_ ⟨_, rfl, reg.Ext.refl _, rfl⟩
                  intro ρ rc rf rg re
                  rw [re] at s9
                  simp [execOp, go_sem, rc, rf, rg, s9] <;> first | omega | rfl | decide
                · -- 5: slot 77 := Op.load 4 t76
                  intro ra w' hx hs
                  have s76 : ra.eval (.tmp 76) = .pointer (some ⟨bx, 2, none⟩) := hs.1
                  clear hs
                  have hcb1 := reg.Ext.cell hx qb1
                  have hcb2 := reg.Ext.cell hx qb2
                  change Oper.wp _ _ ra w' _ _
                  refine reg.wp_value (v := .bool on1) (w' := w') ?_ ⟨_, rfl, reg.Ext.refl _, rfl⟩
                  intro ρ rc rf rg re
                  rw [re] at s76
                  simp [execOp, go_sem, rc, rf, rg, s76, hcb2] <;> first | omega | rfl | decide
                · -- 6: slot 4 := Op.assign t75
                  intro ra w' hx hs
                  have s75 : ra.eval (.tmp 75) = sv jn := hs.1
                  clear hs
                  have hcb1 := reg.Ext.cell hx qb1
                  have hcb2 := reg.Ext.cell hx qb2
                  change Oper.wp _ _ ra w' _ _
                  refine reg.wp_value (v := sv jn) (w' := w') ?_ ⟨_, rfl, reg.Ext.refl _, rfl⟩
                  intro ρ rc rf rg re
                  rw [re] at s75
                  simp [execOp, go_sem, rc, rf, rg, s75] <;> first | omega | rfl | decide
                · -- 7: slot 5 := Op.assign t77
                  intro ra w' hx hs
                  have s77 : ra.eval (.tmp 77) = .bool on1 := hs.1
                  clear hs
                  have hcb1 := reg.Ext.cell hx qb1
                  have hcb2 := reg.Ext.cell hx qb2
                  change Oper.wp _ _ ra w' _ _
                  refine reg.wp_value (v := .bool on1) (w' := w') ?_ ⟨_, rfl, reg.Ext.refl _, rfl⟩
                  intro ρ rc rf rg re
                  rw [re] at s77
                  simp [execOp, go_sem, rc, rf, rg, s77] <;> first | omega | rfl | decide
              intro rV w6 hx6 hf
              have ve0 : rV 0 = .pointer (some ⟨bx, 1, none⟩) := hf 0 (by decide)
              have ve1 : rV 1 = sv fr1 := hf 1 (by decide)
              have ve2 : rV 2 = sv r2 := hf 2 (by decide)
              have ve3 : rV 3 = sv jn := hf 3 (by decide)
              have ve4 : rV 4 = .pointer (some ⟨bx, 2, none⟩) := hf 4 (by decide)
              have ve5 : rV 5 = .bool on1 := hf 5 (by decide)
              have ve6 : rV 6 = sv jn := hf 6 (by decide)
              have ve7 : rV 7 = .bool on1 := hf 7 (by decide)
              clear hf
              simp only [List.zipIdx_cons, List.zipIdx_nil, List.foldl_cons, List.foldl_nil, Act.put, Nat.reduceAdd, List.setIfInBounds_toArray, List.set_cons_succ, List.set_cons_zero, ve0, ve1, ve2, ve3, ve4, ve5, ve6, ve7]
              clear ve0 ve1 ve2 ve3 ve4 ve5 ve6 ve7
              clear rV
              have HB6 : Hid (Below w.heap.size w w6) := HBW.out.trans ((show Below W1.heap.size W1 w6 from ⟨hx6.os, hx6.tape, hx6.output, hx6.size, hx6.block⟩).mono HBW.out.size)
              clear hx6
              go_wp2_with fail
              repeat rw [Exit.noGoto_ret]
              first | go_ret | go_ret2
              exact ⟨by rw [HR3.out]; rfl, HB6.out⟩
end Go.Proofs.Ytdbonbdgoekkcaa.mounts
