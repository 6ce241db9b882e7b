/-
  Proved: what path.Parts gives. Conditions: as each theorem says.
-/
import Derived.Test.YtifhnpkapgaboaaPathClean
import Derived.Deep.AppendLies
namespace Go.Proofs.Ytifhnpkapgaboaa.path
open Go.RowKit Go.Shelf
open heap
set_option linter.unusedVariables false
attribute [local go_sem] Oper.semAt_some

/-- append at a list of operations inside a fence, by its run. -/
theorem wpListIn_append {F : Fence} {n : Nat} {P : Program} {w w' : World} {ops : Array Oper} {rest : List Oper} {o : Oper} {a : Act} {Q : Exit → Act → World → Prop} {v' vs vx : Value} {s x : Operand} {t ty : TypeId} (hgd : o.guard = none)
    (ho : o.op = .call { callee := .builtin .append, args := #[s, x], argTypes := #[t, t] }) (hty : o.type = ty) (hs : a.eval s = vs) (hx : a.eval x = vx) (hr : (Builtin.append_ #[t, t] ty #[vs, vx]).run P w = .ok v' w')
    (h : wpListIn F n P ops Q rest (a.put o.dst v') w') : wpListIn F n P ops Q (o :: rest) a w := by
  refine wpListIn_plain hgd fun K hK => ?_
  unfold Oper.wpIn
  subst hty
  refine ⟨?_, ?_⟩
  · simp [Oper.about, ho, resolve, Target.leads, Sem.run_pure]
  · rw [Oper.semAt_plain F _ _ (by rw [ho]; intro c hc; cases hc)]
    simp [execOp, ho, resolve, invoke, builtin, hs, hx, hr, Result.andThen]
    exact hK _ _ h
/-- A slice of the call's own that reads as texts. -/
def SRow (w : World) (base : Nat) (v : Value) (xs : List (List UInt8)) : Prop := w.ownsRow base 9 1 v xs.length (xs.map sv)
theorem infoS : (Try.prog.info? 9).map (fun i => (i.zero, i.size, i.bytes)) = some (some (.string ⟨#[]⟩), 1, 16) := by kernel_rfl
theorem add0 (g j : Nat) : (⟨g, 0, none⟩ : Addr).add j = ⟨g, j, none⟩ := by unfold Addr.add; split <;> simp_all
theorem append_s (w : World) (base : Nat) (v : Value) (n : Nat) (xs : List Value) (hown : w.ownsRow base 9 1 v n xs) (ad : Addr) (m c : Nat) (news : List Value) (hl : news.length = m * 1)
    (hnews : ∀ j u, news[j]? = some u → w.cell? (ad.add j) = some u) (h1 : ∀ u ∈ news, u.oneCell' = true) (hm : 0 < m) (hbytes : (n + m) * 16 ≤ 140737488355328) (hbase : base ≤ w.heap.size) :
    ∃ g cap w', (Builtin.append_ #[141, 141] 141 #[v, .slice (some ad) m c]).run Try.prog w = .ok (.slice (some ⟨g, 0, none⟩) (n + m) cap) w' ∧ w'.ownsRow base 9 1 (.slice (some ⟨g, 0, none⟩) (n + m) cap) (n + m) (xs ++ news) ∧ w.grownBy w' v.ownBlock ∧ (v.ownBlock = some g ∨ g = w.heap.size) := by
  obtain ⟨i0, hi, hz0, hz1, hz2⟩ := info_parts infoS
  obtain ⟨g, cap, w', h1, h2, h3, h4, _⟩ := run_append_lies (P := Try.prog) (w := w) 141 141 base 9 i0 _ 1 16 Try.underlying141 hi hz0 hz1 hz2 rfl (by decide) v n xs hown ad m c news hl hnews h1 hm (by unfold maxLen; omega) hbytes hbase _ rfl
  exact ⟨g, cap, w', h1, h2, h3, h4⟩
theorem own_kept {w w' : World} {base n : Nat} {v : Value} {xs : List Value} (h : w.ownsRow base 9 1 v n xs) (hk : ∀ g o, v.ownBlock = some g → w.heap[g]? = some o → o.isCells = true → w'.heap[g]? = some o) : w'.ownsRow base 9 1 v n xs := by
  obtain ⟨hl, h1 | ⟨g, c, cur, rfl, h2, h3, h4⟩⟩ := h
  · exact ⟨hl, .inl h1⟩
  · exact ⟨hl, .inr ⟨g, c, cur, rfl, h2, hk g _ rfl h3 rfl, h4⟩⟩
theorem own_base {w : World} {b b' n : Nat} {v : Value} {xs : List Value} (h : w.ownsRow b 9 1 v n xs) (hb : b' ≤ b) : w.ownsRow b' 9 1 v n xs := by
  obtain ⟨hl, h1 | ⟨g, c, cur, rfl, h2, h3⟩⟩ := h
  · exact ⟨hl, .inl h1⟩
  · exact ⟨hl, .inr ⟨g, c, cur, rfl, Nat.le_trans hb h2, h3⟩⟩
theorem own_cells {w : World} {base n : Nat} {v : Value} {xs : List Value} (h : w.ownsRow base 9 1 v n xs) {g : Nat} (hg : v.ownBlock = some g) : ∃ o, w.heap[g]? = some o ∧ o.isCells = true := by
  obtain ⟨hl, ⟨rfl, _⟩ | ⟨g', c, cur, rfl, h2, h3, h4⟩⟩ := h
  · cases hg
  · cases hg; exact ⟨_, h3, rfl⟩
theorem own_slice {w : World} {base n : Nat} {v : Value} {xs : List Value} (h : w.ownsRow base 9 1 v n xs) : ∃ a c, v = .slice a n c := by
  obtain ⟨_, ⟨h, h0⟩ | ⟨_, _, _, h, _⟩⟩ := h
  · exact ⟨none, 0, by rw [h, h0]⟩
  · exact ⟨_, _, h⟩
theorem SRow.below {w w' : World} {base : Nat} {v : Value} {xs : List (List UInt8)} (h : SRow w base v xs) (hb : Below w.heap.size w w') : SRow w' base v xs := own_kept h (fun g o hg ho _ => blk_below ho hb)
theorem SRow.turned {w w' : World} {base : Nat} {v : Value} {xs : List (List UInt8)} {S : List Nat} (h : SRow w base v xs) (ht : Turned S w w') (hS : ∀ g, v.ownBlock = some g → g ∉ S) : SRow w' base v xs := own_kept h (fun g o hg ho _ => ht.kept ho (hS g hg))
/-- One text more: the box that holds the slice is written. -/
theorem push_s (w : World) (base B : Nat) (v : Value) (xs : List (List UInt8)) (x : List UInt8) (hB : B < base) (h : SRow w base v xs) (hbox : w.heap[B]? = some (.cells #[v] 141 (0, 0))) (hbytes : (xs.length + 1) * 16 ≤ 140737488355328) (hbase : base ≤ w.heap.size) :
    ∃ a n c w', (Builtin.append_ #[141, 141] 141 #[v, .slice (some ⟨w.heap.size, 0, none⟩) 1 1]).run Try.prog (w.alloc (.cells #[sv x] 9)) = .ok (.slice a n c) w' ∧
      w'.heap[B]? = some (.cells #[v] 141 (0, 0)) ∧ SRow (w'.setCell ⟨B, 0, none⟩ (.slice a n c)) base (.slice a n c) (xs ++ [x]) ∧
      (w'.setCell ⟨B, 0, none⟩ (.slice a n c)).heap[B]? = some (.cells #[.slice a n c] 141 (0, 0)) ∧ w.heap.size ≤ (w'.setCell ⟨B, 0, none⟩ (.slice a n c)).heap.size ∧
      (∀ b, b < w.heap.size → b ≠ B → v.ownBlock ≠ some b → (w'.setCell ⟨B, 0, none⟩ (.slice a n c)).heap[b]? = w.heap[b]?) ∧ w'.os = w.os ∧ w'.tape = w.tape ∧ w'.output = w.output ∧ (∀ g, (Value.slice a n c).ownBlock = some g → v.ownBlock = some g ∨ w.heap.size ≤ g) := by
  have hBl := blk_lt hbox
  obtain ⟨g0, c, w', hrun, hown, hgr, hlies⟩ := append_s (w.alloc (.cells #[sv x] 9)) base v xs.length _ (World.ownsRow.alloc h _) ⟨w.heap.size, 0, none⟩ 1 1 [sv x] rfl (fun j u hu => by rw [add0, blk_cell (blk_new w _)]; simpa using hu) (by simp [Value.oneCell']) (by decide) hbytes (by simp; omega)
  have hlt := World.ownsRow.lt h
  have hne : v.ownBlock ≠ some B := fun e => by have := (hlt B e).1; omega
  have hb1 : w'.heap[B]? = some (.cells #[v] 141 (0, 0)) := by
    rw [hgr.block B (by simp; omega) (fun e => hne e.symm)]; exact blk_old hbox _
  refine ⟨some ⟨g0, 0, none⟩, _, c, w', hrun, hb1, ?_, blk_set hb1 0 _, ?_, fun b hb hn hv => ?_, hgr.os, hgr.tape, hgr.output, fun g hg => ?_⟩
  · have : (w'.setCell ⟨B, 0, none⟩ (.slice (some ⟨g0, 0, none⟩) (xs.length + 1) c)).ownsRow base 9 1 (.slice (some ⟨g0, 0, none⟩) (xs.length + 1) c) (xs.length + 1) (xs.map sv ++ [sv x]) := own_kept hown (fun g o hg ho _ => by
      have := (World.ownsRow.lt hown g hg).1
      rw [blk_other (by omega)]; exact ho)
    unfold SRow
    rw [List.length_append, List.map_append]
    exact this
  · have := hgr.size; simp [World.setCell] at this ⊢; omega
  · rw [blk_other hn, hgr.block b (by simp; omega) (fun e => hv e.symm), Below.heap_alloc _ _ _ hb]
  · cases hg
    rcases hlies with h | h
    · exact .inl h
    · right; rw [h]; simp
structure PaI (w : World) (pre : List (List UInt8)) (W : World) : Prop where
  row : ∃ v, W.heap[w.heap.size]? = some (.cells #[v] 141 (0, 0)) ∧ SRow W (w.heap.size + 2) v pre
  bel : Below w.heap.size w W
  big : w.heap.size + 2 ≤ W.heap.size
set_option maxRecDepth 100000 in
set_option maxHeartbeats 1000000 in
theorem Parts_any (l : List UInt8) (w : World) (hl : l.length ≤ 8796093022206) :
    Calls Try.prog 91 #[sv l] w fun e w' => ∃ v, e = .returned v ∧ SRow w' w.heap.size v (partsL l) ∧ Below w.heap.size w w' := by
  have z := str_size l
  by_cases h0 : l = []
  · subst h0
    refine (callsIn_wide (n := 9)).1 (callsIn_of_wp_marks Try.func91 rfl trivial ?_ rfl)
    simp only [Try.ntmps91, List.size_toArray, List.length_cons, List.length_nil, Nat.reduceAdd, Nat.reduceSub, Array.replicate_succ, Array.replicate_zero, List.push_toArray, List.append_toArray, List.nil_append, List.cons_append]
    gi_wp2_with fail
    exact ⟨.slice none 0 0, by simp [results, Try.results91, go_sem], _, rfl, World.ownsRow_nil _ _ _ _, (Below.refl _ _).alloc (Nat.le_refl _) _⟩
  · have b0 : l.isEmpty = false := by cases l <;> simp_all
    have b0' : (l == []) = false := by rw [beq_eq_false_iff_ne]; exact h0
    have HP := Lib.hid (fun W : World => pieces_any l W)
    refine (callsIn_wide (n := 9)).1 (callsIn_of_wp_marks Try.func91 rfl trivial ?_ rfl)
    simp only [Try.ntmps91, List.size_toArray, List.length_cons, List.length_nil, Nat.reduceAdd, Nat.reduceSub, Array.replicate_succ, Array.replicate_zero, List.push_toArray, List.append_toArray, List.nil_append, List.cons_append]
    gi_wp2_with fail
    refine ⟨trivial, (callsIn_wide.2 (HP.out _)).mono ?_⟩
    rintro e w1 ⟨rfl, rfl⟩
    gi_wp2_with fail
    have hW3 : VarIs (w.heap.size + 1) l ((w.alloc (.cells #[.slice none 0 0] 141)).alloc (.cells #[sv l] 9)) := by
      have := blk_new (w.alloc (.cells #[.slice none 0 0] 141)) (.cells #[sv l] 9)
      rw [World.size_alloc] at this
      exact this
    have hI3 : PaI w [] ((w.alloc (.cells #[.slice none 0 0] 141)).alloc (.cells #[sv l] 9)) :=
      ⟨⟨_, blk_old (blk_new w _) _, World.ownsRow_nil _ _ _ _⟩, ((Below.refl _ _).alloc (Nat.le_refl _) _).alloc (by simp) _, by simp⟩
    have hs3 : ((w.alloc (.cells #[.slice none 0 0] 141)).alloc (.cells #[sv l] 9)).heap.size = w.heap.size + 2 := by simp
    generalize (w.alloc (.cells #[.slice none 0 0] 141)).alloc (.cells #[sv l] 9) = W3 at *
    have HS3 := Lib.hid hs3
    have HBD := Lib.hid (pieces_bd l)
    have HPL : Hid (partsL l = piecesL l) := by rw [Hid, partsL, if_neg h0]
    clear hs3
    refine rangePieces (w.heap.size + 1) l (by omega) rfl hW3 (PaI w) (fun _ _ _ => False) ?hI (fun _ _ _ _ _ h => h) hI3 (fun x => { tmps := #[sv l, undef, .slice none 0 0, .pointer (some ⟨w.heap.size, 0, none⟩), sv x, sv l, .bool false, undef, sv l, .func (.func 125) #[] #[.pointer (some ⟨w.heap.size + 1, 0, none⟩)], sv x, undef, undef, undef, undef, undef], defers := [] }) ?assign ?body ?done ?stop
    case hI =>
      rintro pre W W' hc ⟨⟨v, hv, hrow⟩, hb, hbig⟩
      rw [HS3.out] at hc
      have hz := blk_lt hv
      exact ⟨⟨v, by rw [hc.low _ (by omega) (by omega) (by omega)]; exact hv, own_kept hrow (fun g o hg ho hcl => hc.cells g o (by have := (World.ownsRow.lt hrow g hg).1; omega) ho hcl)⟩, hc.below hb (by omega) (by omega), Nat.le_trans hbig hc.size⟩
    case assign =>
      intro l' x W K hK
      gi_wp2
      exact hK
    case body =>
      rintro l' pre x W hsz ⟨⟨v, hv, hrow⟩, hb, hbig⟩ hpre
      rw [HS3.out]
      have hc0 : W.cell? ⟨w.heap.size, 0, none⟩ = some v := by rw [blk_cell hv]; rfl
      have hpl : pre.length < (piecesL l).length := by have := hpre.length_le; simp at this; omega
      have hbd := HBD.out.1
      obtain ⟨a, n, c, w4, hrun, hb4, hrow5, hv5, hz5, hk5, ho5, ht5, hu5, -⟩ := push_s W (w.heap.size + 2) w.heap.size v pre x (by omega) hrow hv (by omega) hbig
      have k0 : w4.cell? ⟨w.heap.size, 0, none⟩ = some v := by rw [blk_cell hb4]; rfl
      have f0 : w4.frozen? ⟨w.heap.size, 0, none⟩ = false := blk_free hb4 0
      have HOC := Lib.hid (fun (g : Nat) (hg : v.ownBlock = some g) => own_cells hrow hg)
      have HLT := Lib.hid (World.ownsRow.lt hrow)
      have HF : Hid (Post (w.heap.size + 2) (w.heap.size + 1) (PaI w) (fun _ _ _ => False) (pre ++ [x]) W .normal ⟨#[], []⟩ (w4.setCell ⟨w.heap.size, 0, none⟩ (.slice a n c))) := by
        refine ⟨⟨hz5, fun b o hbb ho hno => ?_, ?_⟩, ⟨_, hv5, hrow5⟩, ?_, by omega⟩
        · rw [hk5 b (blk_lt ho) (by omega) (fun e => ?_)]
          · exact ho
          · obtain ⟨o', ho', hc'⟩ := HOC.out b e
            rw [ho] at ho'; cases ho'; rw [hno] at hc'; cases hc'
        · exact hk5 _ (by omega) (by omega) (fun e => by have := (HLT.out _ e).1; omega)
        · refine ⟨ho5.trans hb.os, ht5.trans hb.tape, hu5.trans hb.output, Nat.le_trans hb.size hz5, fun i hi => ?_⟩
          rw [hk5 i (Nat.lt_of_lt_of_le hi hb.size) (by omega) (fun e => by have := (HLT.out _ e).1; omega)]
          exact hb.block i hi
      have HR := Lib.hid hrun
      clear hv hrow hb hbig hpre hpl hbd hrun hb4 hrow5 hv5 hz5 hk5 ho5 ht5 hu5
      gi_wp2_with (gi_at_builtin; refine wpListIn_append rfl rfl rfl rfl rfl HR.out ?_)
      exact HF.out
    case done =>
      rintro D W hD ⟨⟨v, hv, hrow⟩, hb, hbig⟩ hK
      rw [HS3.out] at hD
      have hc0 : W.cell? ⟨w.heap.size, 0, none⟩ = some v := by rw [blk_cell hv]; rfl
      have HRW : Hid (SRow (W.putObj D (.deferred none)) w.heap.size v (partsL l)) := by
        rw [Hid, HPL.out]
        refine own_base (own_kept hrow (fun g o hg ho hcl => ?_)) (by omega)
        rw [World.putObj_heap_other (fun e => ?_)]
        · exact ho
        · rw [e, hK] at ho; cases ho; cases hcl
      have HBB : Hid (Below w.heap.size w (W.putObj D (.deferred none))) := hb.trans ⟨rfl, rfl, rfl, by simp, fun b hb => World.putObj_heap_other (by omega)⟩
      clear hv hrow hb
      gi_wp2_with fail
      refine ⟨by simp, .inl ⟨_, _, rfl, run_takeDeferred hK, ?_⟩⟩
      exact ⟨v, by simp [results, Try.results91, go_sem], v, rfl, HRW.out, HBB.out⟩
    case stop => intro D k pre W _ _ h _; exact h.elim
end Go.Proofs.Ytifhnpkapgaboaa.path
