/-
  Proved: what Table.Add gives. Conditions: as each theorem says.
-/
import Derived.Test.YtdbonbdgoekkcaaMounts2
namespace Go.Proofs.Ytdbonbdgoekkcaa.mounts
open Go.RowKit Go.Shelf
open heap path
set_option linter.unusedVariables false

def addS (v : Value) (p j : Nat) : List Nat := match j with
  | 8 => v.ownBlock.toList
  | 11 => [p]
  | _ => []
theorem addS_mem {v : Value} {p j b : Nat} (h : b ∈ addS v p j) : (j = 8 ∧ v.ownBlock = some b) ∨ (j = 11 ∧ b = p) := by
  unfold addS at h
  split at h
  · exact .inl ⟨rfl, by simpa using h⟩
  · exact .inr ⟨rfl, by simpa using h⟩
  · cases h
theorem mrow_turned {w w' : World} {base : Nat} {v : Value} {ms : List Mt} {S : List Nat} (h : MRow w base v ms) (ht : Turned S w w') (hS : ∀ g, v.ownBlock = some g → g ∉ S) : MRow w' base v ms := mrow_kept h (fun g o hg ho => ht.kept ho (hS g hg))
/-- What may be added at the end. -/
structure MayAdd (ms : List Mt) (m : Mt) : Prop where
  k : findK ms m.at_ = ms.length
  b : findB ms m.at_ = false
  c1 : cleanM m.at_ = true
  c2 : cleanM m.fr = true
  ne : m.at_ ≠ []
  nb : belowB m.fr m.at_ = false
  l8 : ms.length < 8
  la : m.at_.length ≤ 1000
  lf : m.fr.length ≤ 1000
set_option maxRecDepth 100000 in
set_option maxHeartbeats 4000000 in
theorem Add_ok (p B : Nat) (ms : List Mt) (m : Mt) (w : World) (h : MTab w p B ms) (hm : MayAdd ms m) :
    Calls Try.prog 6 #[P p, mtV m] w fun e w' => e = .returned (.int .i64 0) ∧ MTab w' p B (ms ++ [m]) ∧ Below p w w' := by
  obtain ⟨hk, hb, hc1, hc2, hne, hnb, h8, hla, hlf⟩ := hm
  obtain ⟨a, fr, on⟩ := m
  simp only at hk hb hc1 hc2 hne hnb hla hlf
  have b0 : a.isEmpty = false := by cases a <;> simp_all
  have b0' : (a == []) = false := by rw [beq_eq_false_iff_ne]; exact hne
  have hal : MTab (w.alloc (.cells #[sv a, sv fr, .bool on] 29 (0, 0))) p B ms := h.below ((Below.refl _ _).alloc (Nat.le_refl _) _)
  have hbx : (w.alloc (.cells #[sv a, sv fr, .bool on] 29 (0, 0))).heap[w.heap.size]? = some (.cells #[sv a, sv fr, .bool on] 29 (0, 0)) := blk_new _ _
  have HFI := Lib.hid (find_any p B ms a _ hal (by omega))
  rw [hk, hb] at HFI
  have HC1 := Lib.hid (fun W : World => mclean_any a W (by omega))
  have HC2 := Lib.hid (fun W : World => mclean_any fr W (by omega))
  have HBE := Lib.hid (fun W : World => Below_any fr a W (by omega))
  rw [hc1] at HC1
  rw [hc2] at HC2
  rw [hnb] at HBE
  have HH := Lib.hid h
  have hd8 : decide ((8 : Int) ≤ (ms.length : Int)) = false := decide_eq_false (by omega)
  have H8 : Hid (ms.length < 8) := h8
  clear hk hb hc1 hc2 hne hnb hla hlf h hal
  go_enter Try.func6, Try.ntmps6
  go_wp2_with fail
  (with_reducible refine HFI.out.mono ?_); rintro e w1 ⟨rfl, hb1⟩
  have HB1 := Lib.hid hb1
  have hx1 := blk_below hbx hb1
  clear hb1 hbx
  have q0 : w1.cell? ⟨w.heap.size, 0, none⟩ = some (sv a) := by rw [blk_cell hx1]; rfl
  go_wp2_with fail
  (with_reducible refine (HC1.out _).mono ?_); rintro e w2 ⟨rfl, hb2⟩
  have hx2 := blk_below hx1 hb2
  have HB2 : Hid (Below (w.heap.size + 1) (w.alloc (.cells #[sv a, sv fr, .bool on] 29 (0, 0))) w2) := by
    have h1 := HB1.out
    rw [World.size_alloc] at h1
    exact h1.trans (hb2.mono (by have := h1.size; simp at this; omega))
  clear hb2 hx1 HB1 q0
  have q1 : w2.cell? ⟨w.heap.size, 1, none⟩ = some (sv fr) := by rw [blk_cell hx2]; rfl
  go_wp2_with fail
  (with_reducible refine (HC2.out _).mono ?_); rintro e w3 ⟨rfl, hb3⟩
  have hx3 := blk_below hx2 hb3
  have HB3 : Hid (Below (w.heap.size + 1) (w.alloc (.cells #[sv a, sv fr, .bool on] 29 (0, 0))) w3) := HB2.out.trans (hb3.mono (by have := HB2.out.size; simp at this; omega))
  clear hb3 hx2 HB2 q1
  have q0 : w3.cell? ⟨w.heap.size, 0, none⟩ = some (sv a) := by rw [blk_cell hx3]; rfl
  have q1 : w3.cell? ⟨w.heap.size, 1, none⟩ = some (sv fr) := by rw [blk_cell hx3]; rfl
  go_wp2_with fail
  (with_reducible refine (HBE.out _).mono ?_); rintro e w4 ⟨rfl, hb4⟩
  have hx4 := blk_below hx3 hb4
  have HB4 : Hid (Below (w.heap.size + 1) (w.alloc (.cells #[sv a, sv fr, .bool on] 29 (0, 0))) w4) := HB3.out.trans (hb4.mono (by have := HB3.out.size; simp at this; omega))
  clear hb4 hx3 HB3 q0 q1
  have htab : MTab w4 p B ms := (HH.out.below ((Below.refl _ _).alloc (Nat.le_refl _) _)).below (by have := HB4.out; rwa [World.size_alloc])
  obtain ⟨v, hp, hrow⟩ := htab.row
  have HHI := Lib.hid htab.hi
  have HV := Lib.hid (World.ownsRow.lt hrow)
  have HVW : Hid (∀ g, v.ownBlock = some g → g < w.heap.size) := fun g hg => by
    obtain ⟨v', hp', hrow'⟩ := HH.out.row
    have e : v' = v := by
      have := HB4.out.block p (by have := blk_lt hp'; omega)
      rw [hp, blk_old hp'] at this
      simpa using this.symm
    subst e
    exact (World.ownsRow.lt hrow' g hg).2
  obtain ⟨a1, c1, rfl⟩ := hrow.slice
  have q2 : w4.cell? ⟨p, 0, none⟩ = some (.slice a1 ms.length c1) := by rw [blk_cell hp]; rfl
  have hpB := HH.out.lt
  have hpw : p < w.heap.size := by obtain ⟨_, h1, _⟩ := HH.out.row; exact blk_lt h1
  have HP := Lib.hid hp
  have HROW := Lib.hid hrow
  have HX := Lib.hid hx4
  clear hp hrow hx4 htab
  go_wp2_with fail
  refine reg.region_eachG (by kernel_rfl) ((fun rj w1 w2 => heap.Turned (addS (.slice a1 ms.length c1) p rj) w1 w2)) (fun w' => w'.heap[w.heap.size]? = some (.cells #[sv a, sv fr, .bool on] 29 (0, 0)) ∧ Turned (p :: (Value.slice a1 ms.length c1).ownBlock.toList) w4 w') (fun ri v w' => match ri with
      | 0 => v = P p
      | 1 => v = P p
      | 2 => v = P p
      | 3 => v = P p
      | 4 => v = .slice a1 ms.length c1
      | 5 => v = .int .i64 ms.length
      | 6 => v = mtV ⟨a, fr, on⟩
      | 7 => ∃ h, v = .slice (some ⟨h, 0, none⟩) 1 1 ∧ w4.heap.size ≤ h ∧ w'.heap[h]? = some (.cells #[sv a, sv fr, .bool on] 29 (0, 0))
      | 8 => MRow w' B v (ms ++ [⟨a, fr, on⟩])
      | 9 => v = P p
      | 10 => v = P p
      | 11 => ∃ u, w'.heap[p]? = some (.cells #[u] 38 (0, 0)) ∧ MRow w' B u (ms ++ [⟨a, fr, on⟩])
      | _ => True) (fun rk w' => match rk with
      | 8 => MRow w' B (.slice a1 ms.length c1) ms
      | 11 => w'.heap[p]? = some (.cells #[.slice a1 ms.length c1] 38 (0, 0))
      | _ => True) ?_ ?_ ?_ ?_ ?_ (by kernel_rfl) ?_ ?_
  · exact ⟨HX.out, (Turned.refl _ _).drew⟩
  ·
    intro k
    split <;> first | trivial | (first | exact HROW.out | exact HP.out)
  ·
    intro j w1 w2 h hx
    exact ⟨hx.kept h.1 (fun hm => by rcases addS_mem hm with ⟨_, e⟩ | ⟨_, e⟩ <;> first | omega | (have := HVW.out _ e; omega)), h.2.trans (hx.mono (fun b hm => by rcases addS_mem hm with ⟨_, e⟩ | ⟨_, e⟩ <;> simp [e]))⟩
  ·
    intro j i v w1 w2 hij hj hr h hx
    rcases i with _|_|_|_|_|_|_|_|_|_|_|_|i
    · exact h
    · exact h
    · exact h
    · exact h
    · exact h
    · exact h
    · exact h
    · (obtain ⟨b, h1, h2, h3⟩ := h; exact ⟨b, h1, h2, hx.kept h3 (fun hm => by rcases addS_mem hm with ⟨_, e⟩ | ⟨_, e⟩ <;> first | (have := HB4.out.size; simp at this; omega) | (have := HVW.out _ e; have := HB4.out.size; simp at this; omega))⟩)
    · exact mrow_turned h hx (fun b hb hm => by rcases addS_mem hm with ⟨e, _⟩ | ⟨_, e⟩ <;> first | omega | (have := (World.ownsRow.lt h b hb).1; omega))
    · exact h
    · exact h
    · exact (reg.last_no (by kernel_rfl) hij hj hr).elim
    · trivial
  ·
    intro j k w1 w2 hkj h hx
    split at h <;> first | exact h | exact mrow_turned h hx (fun b hb hm => by rcases addS_mem hm with ⟨e, _⟩ | ⟨_, e⟩ <;> first | omega | (have := (HV.out _ hb).1; omega)) | exact hx.kept h (fun hm => by rcases addS_mem hm with ⟨_, e⟩ | ⟨e, _⟩ <;> first | omega | (have := (HV.out _ e).1; omega))
  ·
    refine ⟨?_, ?_, ?_, ?_, ?_, ?_, ?_, ?_, ?_, ?_, ?_, ?_, trivial⟩
    · -- 0: slot 49 := Op.move t0
      intro ra w' hx hg hs
      have s0 : ra.eval (.tmp 0) = P p := hs.1
      clear hs
      change Oper.wp _ _ ra w' _ _
      refine reg.wp_value (v := P p) (w' := w') ?_ ⟨_, rfl, heap.Turned.refl _ _, rfl⟩
      intro ρ rc rf rg re
      rw [re] at s0
      simp [execOp, go_sem, rc, rf, rg, s0] <;> first | omega | rfl | decide
    · -- 1: slot 50 := Op.move t0
      intro ra w' hx hg hs
      have s0 : ra.eval (.tmp 0) = P p := hs.1
      clear hs
      change Oper.wp _ _ ra w' _ _
      refine reg.wp_value (v := P p) (w' := w') ?_ ⟨_, rfl, heap.Turned.refl _ _, rfl⟩
      intro ρ rc rf rg re
      rw [re] at s0
      simp [execOp, go_sem, rc, rf, rg, s0] <;> first | omega | rfl | decide
    · -- 2: slot 51 := Op.nilCheck t50
      intro ra w' hx hg hs
      have s50 : ra.eval (.tmp 50) = P p := hs.1
      clear hs
      change Oper.wp _ _ ra w' _ _
      refine reg.wp_value (v := P p) (w' := w') ?_ ⟨_, rfl, heap.Turned.refl _ _, rfl⟩
      intro ρ rc rf rg re
      rw [re] at s50
      simp [execOp, go_sem, rc, rf, rg, s50] <;> first | omega | rfl | decide
    · -- 3: slot 52 := Op.fieldAddr 38 t51 0
      intro ra w' hx hg hs
      have s51 : ra.eval (.tmp 51) = P p := hs.1
      clear hs
      change Oper.wp _ _ ra w' _ _
      refine reg.wp_value (v := P p) (w' := w') ?_ ⟨_, rfl, heap.Turned.refl _ _, rfl⟩
      intro ρ rc rf rg re
      rw [re] at s51
      simp [execOp, go_sem, rc, rf, rg, s51] <;> first | omega | rfl | decide
    · -- 4: slot 53 := Op.load 35 t52
      intro ra w' hx hg hs
      have s52 : ra.eval (.tmp 52) = P p := hs.1
      clear hs
      change Oper.wp _ _ ra w' _ _
      have hc := blk_cell (hg 11 rfl) 0
      refine reg.wp_value (v := .slice a1 ms.length c1) (w' := w') ?_ ⟨_, rfl, heap.Turned.refl _ _, rfl⟩
      intro ρ rc rf rg re
      rw [re] at s52
      simp [execOp, go_sem, rc, rf, rg, s52, hc] <;> first | omega | rfl | decide
    · -- 5: slot 54 := Op.move t5
      intro ra w' hx hg hs
      have s5 : ra.eval (.tmp 5) = .int .i64 ms.length := hs.1
      clear hs
      change Oper.wp _ _ ra w' _ _
      refine reg.wp_value (v := .int .i64 ms.length) (w' := w') ?_ ⟨_, rfl, heap.Turned.refl _ _, rfl⟩
      intro ρ rc rf rg re
      rw [re] at s5
      simp [execOp, go_sem, rc, rf, rg, s5] <;> first | omega | rfl | decide
    · -- 6: slot 55 := Op.load 29 t3
      intro ra w' hx hg hs
      have s3 : ra.eval (.tmp 3) = .pointer (some ⟨w.heap.size, 0, none⟩) := hs.1
      clear hs
      change Oper.wp _ _ ra w' _ _
      have hc0 := blk_cell hx.1 0
      have hc1 := blk_cell hx.1 1
      have hc2 := blk_cell hx.1 2
      refine reg.wp_value (v := mtV ⟨a, fr, on⟩) (w' := w') ?_ ⟨_, rfl, heap.Turned.refl _ _, rfl⟩
      intro ρ rc rf rg re
      rw [re] at s3
      simp [execOp, go_sem, rc, rf, rg, s3, hc0, hc1, hc2] <;> first | omega | rfl | decide
    · -- 7: slot 56 := Op.buildSlice 35 1 #[(0, t55)]
      intro ra w' hx hg hs
      have s55 : ra.eval (.tmp 55) = mtV ⟨a, fr, on⟩ := hs.1
      clear hs
      change Oper.wp _ _ ra w' _ _
      refine reg.wp_value (v := .slice (some ⟨w'.heap.size, 0, none⟩) 1 1) (w' := w'.alloc (.cells #[sv a, sv fr, .bool on] 29 (0, 0))) ?_ ⟨_, rfl, (heap.Turned.refl _ _).alloc _, _, rfl, hx.2.size, blk_new _ _⟩
      intro ρ rc rf rg re
      rw [re] at s55
      simp [execOp, go_sem, rc, rf, rg, s55] <;> first | omega | rfl | decide
    · -- 8: slot 57 := Op.call { value (Operand.func 15), args := #[t53, t54, t56], argTypes := #[35, 3, 35] }
      intro ra w' hx hg hs
      have s53 : ra.eval (.tmp 53) = .slice a1 ms.length c1 := hs.1
      have s54 : ra.eval (.tmp 54) = .int .i64 ms.length := hs.2.1
      have s56 : ∃ h, (ra.eval (.tmp 56)) = .slice (some ⟨h, 0, none⟩) 1 1 ∧ w4.heap.size ≤ h ∧ w'.heap[h]? = some (.cells #[sv a, sv fr, .bool on] 29 (0, 0)) := hs.2.2.1
      clear hs
      change Oper.wp _ _ ra w' _ _
      obtain ⟨b, hv, hb1, hb2⟩ := s56
      refine reg.wp_call (f := 15) (args := #[.slice a1 ms.length c1, .int .i64 ms.length, .slice (some ⟨b, 0, none⟩) 1 1]) (w' := w') ?_ ((Insert_end B b _ ms ⟨a, fr, on⟩ w' (hg 8 rfl) hb2 (Nat.le_trans HHI.out hx.2.size) (by have := H8.out; omega)).mono ?_)
      · intro ρ rc rf rg re
        rw [re] at hv s53 s54
        simp [execOp, go_sem, rc, rf, rg, hv, s53, s54]
      · rintro e w2 ⟨v2, rfl, hr2, ht2⟩
        exact ⟨_, rfl, _, rfl, ht2, hr2⟩
    · -- 9: slot 58 := Op.nilCheck t49
      intro ra w' hx hg hs
      have s49 : ra.eval (.tmp 49) = P p := hs.1
      clear hs
      change Oper.wp _ _ ra w' _ _
      refine reg.wp_value (v := P p) (w' := w') ?_ ⟨_, rfl, heap.Turned.refl _ _, rfl⟩
      intro ρ rc rf rg re
      rw [re] at s49
      simp [execOp, go_sem, rc, rf, rg, s49] <;> first | omega | rfl | decide
    · -- 10: slot 59 := Op.fieldAddr 38 t58 0
      intro ra w' hx hg hs
      have s58 : ra.eval (.tmp 58) = P p := hs.1
      clear hs
      change Oper.wp _ _ ra w' _ _
      refine reg.wp_value (v := P p) (w' := w') ?_ ⟨_, rfl, heap.Turned.refl _ _, rfl⟩
      intro ρ rc rf rg re
      rw [re] at s58
      simp [execOp, go_sem, rc, rf, rg, s58] <;> first | omega | rfl | decide
    · -- 11: slot None := Op.store 35 t59 t57
      intro ra w' hx hg hs
      have s59 : ra.eval (.tmp 59) = P p := hs.1
      have s57 : MRow w' B (ra.eval (.tmp 57)) (ms ++ [⟨a, fr, on⟩]) := hs.2.1
      clear hs
      change Oper.wp _ _ ra w' _ _
      have hb := hg 11 rfl
      have hc := blk_cell hb 0
      have hf := blk_free hb 0
      have hne : ∀ b, (ra.eval (.tmp 57)).ownBlock = some b → b ∉ [p] := fun b hb hm => by have := (World.ownsRow.lt s57 b hb).1; simp at hm; omega
      refine reg.wp_skip (w' := w'.setCell ⟨p, 0, none⟩ (ra.eval (.tmp 57))) ?_ ⟨_, rfl, (heap.Turned.refl _ _).setCell (by simp [addS]) _, _, blk_set hb 0 _, mrow_turned s57 ((heap.Turned.refl _ _).setCell (by simp) _) hne⟩
      obtain ⟨a9, c9, e9⟩ := MRow.slice s57
      rw [e9]
      intro ρ rc rf rg re
      rw [re] at e9 s59
      simp [execOp, go_sem, e9, s59, hc, hf]
  intro rV w6 hx6 hf
  have ve0 : rV 0 = P p := hf 0 (by decide)
  have ve1 : rV 1 = P p := hf 1 (by decide)
  have ve2 : rV 2 = P p := hf 2 (by decide)
  have ve3 : rV 3 = P p := hf 3 (by decide)
  have ve4 : rV 4 = .slice a1 ms.length c1 := hf 4 (by decide)
  have ve5 : rV 5 = .int .i64 ms.length := hf 5 (by decide)
  have ve6 : rV 6 = mtV ⟨a, fr, on⟩ := hf 6 (by decide)
  have ve7 := hf 7 (by decide)
  have ve8 := hf 8 (by decide)
  have ve9 : rV 9 = P p := hf 9 (by decide)
  have ve10 : rV 10 = P p := hf 10 (by decide)
  have ve11 := hf 11 (by decide)
  clear hf
  simp only [List.zipIdx_cons, List.zipIdx_nil, List.foldl_cons, List.foldl_nil, Act.put, Nat.reduceAdd, List.setIfInBounds_toArray, List.set_cons_succ, List.set_cons_zero, ve0, ve1, ve2, ve3, ve4, ve5, ve6, ve9, ve10]
  clear ve0 ve1 ve2 ve3 ve4 ve5 ve6 ve9 ve10
  generalize rV 7 = v7 at *
  generalize rV 8 = v8 at *
  generalize rV 11 = v11 at *
  clear rV
  obtain ⟨u, hu1, hu2⟩ := ve11
  have HF : Hid (MTab w6 p B (ms ++ [⟨a, fr, on⟩]) ∧ Below p w w6) := by
    refine ⟨⟨hpB, Nat.le_trans HHI.out hx6.2.size, u, hu1, hu2⟩, ?_⟩
    have h1 : Below p (w.alloc (.cells #[sv a, sv fr, .bool on] 29 (0, 0))) w4 := HB4.out.mono (by omega)
    have h2 : Below p w4 w6 := hx6.2.below (by have := blk_lt HP.out; omega) (fun k hk => by
      rcases List.mem_cons.1 hk with e | e
      · omega
      · have := (HV.out k (by simpa using e)).1; omega)
    exact (((Below.refl _ _).alloc (by omega) _).trans h1).trans h2
  clear hx6 hu1 hu2 ve7 ve8
  go_wp2_with fail
  go_ret
  exact ⟨rfl, HF.out⟩
end Go.Proofs.Ytdbonbdgoekkcaa.mounts
