/-
  Proved: what path.clean gives. Conditions: as each theorem says.
-/
import Derived.Test.YtifhnpkapgaboaaPathRange
namespace Go.Proofs.Ytifhnpkapgaboaa.path
open Go.RowKit Go.Shelf
open heap
set_option linter.unusedVariables false
attribute [local go_sem] Oper.semAt_some

theorem pieces_any (l : List UInt8) (w : World) : Calls Try.prog 107 #[sv l] w fun e w' => e = .returned (.func (.func 125) #[] #[.pointer (some ⟨w.heap.size, 0, none⟩)]) ∧ w' = w.alloc (.cells #[sv l] 9) := by
  go_enter Try.func107, Try.ntmps107
  go_wp2
  go_ret
  exact ⟨rfl, rfl⟩
theorem Chg.below {B c : Nat} {w W W' : World} (h : Chg B c W W') (hb : Below w.heap.size w W) (hB : w.heap.size ≤ B) (hc : w.heap.size ≤ c) : Below w.heap.size w W' :=
  ⟨h.os.trans hb.os, h.tape.trans hb.tape, h.output.trans hb.output, Nat.le_trans hb.size h.size, fun i hi => by
    rw [h.low i (by omega) (by omega) (Nat.lt_of_lt_of_le hi hb.size)]; exact hb.block i hi⟩
theorem Keeps.of {B c : Nat} {W W' : World} {S : List Nat} (h : Turned S W W') (hS : ∀ b ∈ S, b < B ∧ b ≠ c) (hc : c < W.heap.size) : Keeps B c W W' :=
  ⟨h.size, fun b o hb ho _ => h.kept ho (fun hm => by have := (hS b hm).1; omega), h.block c hc (fun hm => (hS c hm).2 rfl)⟩
structure ClI (w : World) (pre : List (List UInt8)) (W : World) : Prop where
  res : W.heap[w.heap.size]? = some (.cells #[.bool false] 4 (0, 0))
  cnt : W.heap[w.heap.size + 1]? = some (.cells #[.int .i64 pre.length] 3 (0, 0))
  bel : Below w.heap.size w W
  good : ∀ p ∈ pre, nameE p = 0
def ClX (w : World) (k : Code) (pre : List (List UInt8)) (W : World) : Prop :=
  k = .ret ∧ W.heap[w.heap.size]? = some (.cells #[.bool false] 4 (0, 0)) ∧ Below w.heap.size w W ∧ ∃ p ∈ pre, nameE p ≠ 0
set_option maxRecDepth 100000 in
set_option maxHeartbeats 1000000 in
theorem clean_any (l : List UInt8) (w : World) (hl : l.length ≤ 9223372036854775806) :
    Calls Try.prog 118 #[sv l] w fun e w' => e = .returned (.bool (cleanB l)) ∧ Below w.heap.size w w' := by
  have hba1 : Below w.heap.size w (w.alloc (.cells #[.bool false] 4)) := (Below.refl _ _).alloc (Nat.le_refl _) _
  have z := str_size l
  by_cases h0 : l = []
  · subst h0
    refine (callsIn_wide (n := 9)).1 (callsIn_of_wp_marks Try.func118 rfl trivial ?_ rfl)
    simp only [Try.ntmps118, List.size_toArray, List.length_cons, List.length_nil, Nat.reduceAdd, Nat.reduceSub, Array.replicate_succ, Array.replicate_zero, List.push_toArray, List.append_toArray, List.nil_append, List.cons_append]
    refine wpIn_wide.2 ?_
    go_wp2_with fail
    exact ⟨.bool true, by simp [results, Try.results118, go_sem], rfl, (Below.refl _ _).alloc (Nat.le_refl _) _⟩
  · have b0 : l.isEmpty = false := by cases l <;> simp_all
    have b0' : (l == []) = false := by rw [beq_eq_false_iff_ne]; exact h0
    have HP := Lib.hid (fun W : World => pieces_any l W)
    refine (callsIn_wide (n := 9)).1 (callsIn_of_wp_marks Try.func118 rfl trivial ?_ rfl)
    simp only [Try.ntmps118, List.size_toArray, List.length_cons, List.length_nil, Nat.reduceAdd, Nat.reduceSub, Array.replicate_succ, Array.replicate_zero, List.push_toArray, List.append_toArray, List.nil_append, List.cons_append]
    gi_wp2_with fail
    refine ⟨trivial, (callsIn_wide.2 (HP.out _)).mono ?_⟩
    rintro e w1 ⟨rfl, rfl⟩
    gi_wp2_with fail
    have hW3 : VarIs (w.heap.size + 2) l (((w.alloc (.cells #[.bool false] 4)).alloc (.cells #[.int .i64 0] 3)).alloc (.cells #[sv l] 9)) := by
      have := blk_new ((w.alloc (.cells #[.bool false] 4)).alloc (.cells #[.int .i64 0] 3)) (.cells #[sv l] 9)
      rw [World.size_alloc, World.size_alloc] at this
      exact this
    have hI3 : ClI w [] (((w.alloc (.cells #[.bool false] 4)).alloc (.cells #[.int .i64 0] 3)).alloc (.cells #[sv l] 9)) := by
      refine ⟨blk_old (blk_old (blk_new w _) _) _, ?_, (((Below.refl _ _).alloc (Nat.le_refl _) _).alloc (by simp) _).alloc (by simp; omega) _, fun p hp => by cases hp⟩
      have := blk_new (w.alloc (.cells #[.bool false] 4)) (.cells #[.int .i64 0] 3)
      rw [World.size_alloc] at this
      exact blk_old this _
    have hs3 : (((w.alloc (.cells #[.bool false] 4)).alloc (.cells #[.int .i64 0] 3)).alloc (.cells #[sv l] 9)).heap.size = w.heap.size + 3 := by simp
    generalize ((w.alloc (.cells #[.bool false] 4)).alloc (.cells #[.int .i64 0] 3)).alloc (.cells #[sv l] 9) = W3 at *
    have HS3 := Lib.hid hs3
    have HBD := Lib.hid (pieces_bd l)
    have HCB : Hid (cleanB l = (decide (∀ p ∈ piecesL l, nameE p = 0) && decide ((piecesL l).length ≤ 8) && decide (l.length ≤ 140))) := by rw [Hid, cleanB, decide_eq_false h0, Bool.false_or]
    clear hs3
    refine rangePieces (w.heap.size + 2) l (by omega) rfl hW3 (ClI w) (ClX w) ?hI ?hIx hI3 (fun x => { tmps := #[sv l, undef, .pointer (some ⟨w.heap.size, 0, none⟩), .pointer (some ⟨w.heap.size + 1, 0, none⟩), sv x, sv l, .bool false, sv l, .func (.func 125) #[] #[.pointer (some ⟨w.heap.size + 2, 0, none⟩)], sv x, undef, undef, undef, undef, undef, undef, undef, undef, undef, undef, undef, undef], defers := [] }) ?assign ?body ?done ?stop
    case hI =>
      intro pre W W' hc h
      rw [HS3.out] at hc
      have hz := blk_lt h.cnt
      exact ⟨by rw [hc.low _ (by omega) (by omega) (by omega)]; exact h.res, by rw [hc.low _ (by omega) (by omega) (by omega)]; exact h.cnt, hc.below h.bel (by omega) (by omega), h.good⟩
    case hIx =>
      rintro k pre W W' hc ⟨hk, hr, hb, hx⟩
      rw [HS3.out] at hc
      have hz := blk_lt hr
      exact ⟨hk, by rw [hc.low _ (by omega) (by omega) (by omega)]; exact hr, hc.below hb (by omega) (by omega), hx⟩
    case assign =>
      intro l' x W K hK
      gi_wp2
      exact hK
    case body =>
      intro l' pre x W hsz hi hpre
      rw [HS3.out] at hsz
      rw [HS3.out]
      have hc0 : W.cell? ⟨w.heap.size + 1, 0, none⟩ = some (.int .i64 pre.length) := by rw [blk_cell hi.cnt]; rfl
      have hf0 : W.frozen? ⟨w.heap.size + 1, 0, none⟩ = false := blk_free hi.cnt 0
      have hpl : pre.length < (piecesL l).length := by have := hpre.length_le; simp at this; omega
      have hbd := HBD.out.1
      have hpb : pre.length + 1 ≤ 9223372036854775807 := by omega
      have hxl : x.length ≤ l.length := (HBD.out.2 x (hpre.subset (by simp))).1
      have HN := Lib.hid (fun W : World => Name_any x W (by omega))
      have hcnt1 := blk_set hi.cnt 0 (.int .i64 (pre.length + 1))
      have hres1 : (W.setCell ⟨w.heap.size + 1, 0, none⟩ (.int .i64 (pre.length + 1))).heap[w.heap.size]? = some (.cells #[.bool false] 4 (0, 0)) := by rw [blk_other (by omega)]; exact hi.res
      have HT1 : Hid (Turned [w.heap.size + 1, w.heap.size] W (W.setCell ⟨w.heap.size + 1, 0, none⟩ (.int .i64 (pre.length + 1)))) := (Turned.refl _ _).setCell (by simp) _
      have HC1 := Lib.hid hcnt1
      have HR1 := Lib.hid hres1
      have HI := Lib.hid hi
      have HPR := Lib.hid hpre
      clear hi hpre hbd hcnt1 hres1
      gi_wp2_with fail
      refine ⟨trivial, (CallsIn.inRound l' (callsIn_wide.2 (HN.out _))).mono ?_⟩
      rintro e w4 ⟨rfl, hb4⟩
      have HC4 := Lib.hid (blk_below HC1.out hb4)
      have hres4 := blk_below HR1.out hb4
      have r0 : w4.cell? ⟨w.heap.size, 0, none⟩ = some (.bool false) := by rw [blk_cell hres4]; rfl
      have g0 : w4.frozen? ⟨w.heap.size, 0, none⟩ = false := blk_free hres4 0
      have HT4 : Hid (Turned [w.heap.size + 1, w.heap.size] W w4) := HT1.out.trans (Turned.of_below hb4)
      have HR4 := Lib.hid hres4
      clear hb4 hres4
      by_cases hn : nameE x = 0
      · rw [hn]
        have HNN := Lib.hid hn
        clear hn
        gi_wp2_with fail
        refine ⟨Keeps.of HT4.out (fun b hb => by simp at hb; omega) (by omega), HR4.out, ?_, HI.out.bel.trans (HT4.out.below HI.out.bel.size (fun b hb => by simp at hb; omega)), fun p hp => ?_⟩
        · rw [HC4.out]; simp
        · rcases List.mem_append.1 hp with hp | hp
          · exact HI.out.good p hp
          · rw [List.mem_singleton] at hp; rw [hp]; exact HNN.out
      · have hb : (nameE x != 0) = true := by rw [bne_iff_ne]; exact hn
        have HNN := Lib.hid hn
        clear hn
        gi_wp2_with fail
        have hT5 : Turned [w.heap.size + 1, w.heap.size] W (w4.setCell ⟨w.heap.size, 0, none⟩ (.bool false)) := HT4.out.setCell (by simp) _
        refine ⟨Keeps.of hT5 (fun b hb => by simp at hb; omega) (by omega), rfl, ?_, HI.out.bel.trans (hT5.below HI.out.bel.size (fun b hb => by simp at hb; omega)), x, by simp, HNN.out⟩
        have := blk_set HR4.out 0 (.bool false)
        exact this
    case done =>
      intro D W hD hi hK
      rw [HS3.out] at hD
      have hc0 : W.cell? ⟨w.heap.size + 1, 0, none⟩ = some (.int .i64 (piecesL l).length) := by rw [blk_cell hi.cnt]; rfl
      have r0 : W.cell? ⟨w.heap.size, 0, none⟩ = some (.bool false) := by rw [blk_cell hi.res]; rfl
      have g0 : W.frozen? ⟨w.heap.size, 0, none⟩ = false := blk_free hi.res 0
      have HR : Hid (cleanB l = (decide ((piecesL l).length ≤ 8) && decide (l.length ≤ 140))) := by rw [Hid, HCB.out, decide_eq_true hi.good, Bool.true_and]
      have HE : Hid (∀ v, ((W.setCell ⟨w.heap.size, 0, none⟩ v).putObj D (.deferred none)).cell? ⟨w.heap.size, 0, none⟩ = some v) := fun v => by
        rw [World.cell?_of_block (w := W.setCell ⟨w.heap.size, 0, none⟩ v) (World.putObj_heap_other (by show w.heap.size ≠ D; omega)), blk_cell (blk_set hi.res 0 v)]
        simp
      have HKK : Hid (∀ v, (W.setCell ⟨w.heap.size, 0, none⟩ v).heap[D]? = some (.deferred (some []))) := fun v => by rw [blk_other (by omega)]; exact hK
      have HBB : Hid (∀ v, Below w.heap.size w ((W.setCell ⟨w.heap.size, 0, none⟩ v).putObj D (.deferred none))) := fun v =>
        (hi.bel.setCell (by simp) v).trans ⟨rfl, rfl, rfl, by simp, fun b hb => World.putObj_heap_other (by omega)⟩
      clear hi hK
      generalize (piecesL l).length = np at *
      by_cases h1 : np ≤ 8
      · have d1 : decide ((np : Int) ≤ 8) = true := by simp; omega
        by_cases h2 : l.length ≤ 140
        · have HV : Hid (cleanB l = true) := by rw [Hid, HR.out]; simp [h1, h2]
          gi_wp2_with fail
          refine ⟨by simp, .inl ⟨_, _, rfl, run_takeDeferred (HKK.out _), ?_⟩⟩
          exact ⟨.bool true, by simp [results, Try.results118, go_sem, HE.out] <;> omega, by rw [HV.out], HBB.out _⟩
        · have HV : Hid (cleanB l = false) := by rw [Hid, HR.out]; simp [h2]
          gi_wp2_with fail
          refine ⟨by simp, .inl ⟨_, _, rfl, run_takeDeferred (HKK.out _), ?_⟩⟩
          exact ⟨.bool false, by simp [results, Try.results118, go_sem, HE.out] <;> omega, by rw [HV.out], HBB.out _⟩
      · have d1 : decide ((np : Int) ≤ 8) = false := by simp; omega
        have HV : Hid (cleanB l = false) := by rw [Hid, HR.out]; simp [h1]
        gi_wp2_with fail
        refine ⟨by simp, .inl ⟨_, _, rfl, run_takeDeferred (HKK.out _), ?_⟩⟩
        exact ⟨.bool false, by simp [results, Try.results118, go_sem, HE.out] <;> omega, by rw [HV.out], HBB.out _⟩
    case stop =>
      rintro D k pre W hD hpre ⟨rfl, hr, hb, p, hp, hx⟩ hK
      rw [HS3.out] at hD
      have HV : Hid (cleanB l = false) := by
        rw [Hid, HCB.out, decide_eq_false (fun h => hx (h p (hpre.subset hp)))]; rfl
      have HE : Hid ((W.putObj D (.deferred none)).cell? ⟨w.heap.size, 0, none⟩ = some (.bool false)) := by
        rw [Hid, World.cell?_of_block (w := W) (World.putObj_heap_other (by show w.heap.size ≠ D; omega)), blk_cell hr]; rfl
      have HBB : Hid (Below w.heap.size w (W.putObj D (.deferred none))) := hb.trans ⟨rfl, rfl, rfl, by simp, fun b hb => World.putObj_heap_other (by omega)⟩
      gi_wp2_with fail
      refine ⟨by simp, .inl ⟨_, _, rfl, run_takeDeferred hK, ?_⟩⟩
      exact ⟨.bool false, by simp [results, Try.results118, go_sem, HE.out], by rw [HV.out], HBB.out⟩
end Go.Proofs.Ytifhnpkapgaboaa.path
