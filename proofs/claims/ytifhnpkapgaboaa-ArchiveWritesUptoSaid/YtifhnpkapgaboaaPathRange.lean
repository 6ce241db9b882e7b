/-
  Proved: a law for a range over path.pieces: an iterator that keeps what is left in a captured variable. Conditions: as each theorem says.
-/
import Derived.Test.YtifhnpkapgaboaaPathName
import Derived.RangeFuncNested
import Derived.RangeFuncBound
import Derived.RangeFuncCalls
import Derived.RangeFuncLeaves
import Derived.Shelf.Abstract
import Derived.Shelf.RegionOpen
import Derived.OwnWalkIn
import Derived.TacticsInMore
import Derived.LoopNIn
import Derived.LoopIn
namespace Go.Proofs.Ytifhnpkapgaboaa.path
open Go.RowKit Go.Shelf
open heap
set_option linter.unusedVariables false
attribute [local go_sem] Oper.semAt_some

/-- What the law and the iterator do to the world: the variable c, new blocks, blocks from B on that hold no cells. -/
structure Chg (B c : Nat) (W W' : World) : Prop where
  os : W'.os = W.os
  tape : W'.tape = W.tape
  output : W'.output = W.output
  size : W.heap.size ≤ W'.heap.size
  low : ∀ b, b < B → b ≠ c → b < W.heap.size → W'.heap[b]? = W.heap[b]?
  cells : ∀ b o, b ≠ c → W.heap[b]? = some o → o.isCells = true → W'.heap[b]? = some o
theorem Chg.put {B c : Nat} {W : World} {l : Nat} {o : Obj} (o' : Obj) (hB : B ≤ l) (hl : W.heap[l]? = some o) (ho : o.isCells = false) : Chg B c W (W.putObj l o') :=
  ⟨rfl, rfl, rfl, by simp, fun b hb _ _ => World.putObj_heap_other (by omega), fun b p _ hp hc => by
    have hne : b ≠ l := by rintro rfl; rw [hl] at hp; cases hp; rw [ho] at hc; cases hc
    rw [World.putObj_heap_other hne]; exact hp⟩
theorem Chg.of_below {B c : Nat} {W W' : World} (h : Below W.heap.size W W') : Chg B c W W' :=
  ⟨h.os, h.tape, h.output, h.size, fun b _ _ hb => h.block b hb, fun b o _ ho _ => blk_below ho h⟩
theorem Chg.alloc {B c : Nat} (W : World) (o : Obj) : Chg B c W (W.alloc o) := Chg.of_below ((Below.refl _ _).alloc (Nat.le_refl _) _)
theorem Chg.set {B c : Nat} (W : World) (v : Value) : Chg B c W (W.setCell ⟨c, 0, none⟩ v) :=
  ⟨rfl, rfl, rfl, by simp [World.setCell], fun b _ hn _ => Below.heap_setCell _ _ _ _ hn, fun b o hn ho _ => by rw [Below.heap_setCell _ _ _ _ hn]; exact ho⟩
theorem Chg.trans {B c : Nat} {X Y Z : World} (h : Chg B c X Y) (k : Chg B c Y Z) : Chg B c X Z :=
  ⟨k.os.trans h.os, k.tape.trans h.tape, k.output.trans h.output, Nat.le_trans h.size k.size, fun b hb hn hs => (k.low b hb hn (Nat.lt_of_lt_of_le hs h.size)).trans (h.low b hb hn hs), fun b o hn ho hc => k.cells b o hn (h.cells b o hn ho hc) hc⟩
/-- The body's word. -/
structure Keeps (B c : Nat) (W W' : World) : Prop where
  size : W.heap.size ≤ W'.heap.size
  other : ∀ b o, B ≤ b → W.heap[b]? = some o → o.isCells = false → W'.heap[b]? = some o
  var : W'.heap[c]? = W.heap[c]?
abbrev VarIs (c : Nat) (l : List UInt8) (W : World) : Prop := W.heap[c]? = some (.cells #[sv l] 9 (0, 0))
/-- How long the text in the variable is. -/
def strAt (c : Nat) (W : World) : Nat := match W.heap[c]? with
  | some (Obj.cells cs _ _) => match (cs[0]? : Option Value) with
    | some (Value.string s) => s.size
    | _ => 0
  | _ => 0
theorem strAt_eq {c : Nat} {l : List UInt8} {W : World} (h : VarIs c l W) : strAt c W = l.length := by
  unfold strAt
  rw [h]
  show (⟨l.toArray⟩ : ByteArray).size = _
  exact str_size l
set_option maxRecDepth 100000 in
set_option maxHeartbeats 1000000 in
/-- The iterator. -/
theorem pieces_in (n : Nat) (l c : Nat) (S : List UInt8) (hS : S.length ≤ 9223372036854775807) (J Jx : List (List UInt8) → World → Prop) (B : Nat)
    (hJ : ∀ pre W W', J pre W → Chg B c W W' → (∀ b o, B ≤ b → W.heap[b]? = some o → o.isCells = false → W'.heap[b]? = some o) → J pre W')
    (hY : ∀ pre x W, J pre W → (pre ++ [x]) <+: piecesL S → YieldAt Fence.wide (n - 1) Try.prog l #[sv x] W fun e W' =>
      (e = .returned (.bool true) ∧ J (pre ++ [x]) W' ∧ W'.heap[c]? = W.heap[c]?) ∨ (e = .returned (.bool false) ∧ Jx (pre ++ [x]) W'))
    (W : World) (hc : VarIs c S W) (h0 : J [] W) :
    CallsIn Fence.wide n Try.prog 125 #[.func (.yield l) #[] #[], .pointer (some ⟨c, 0, none⟩)] W fun e W' => (∃ v, e = .returned v) ∧
      (J (piecesL S) W' ∨ (∃ pre, pre <+: piecesL S ∧ Jx pre W')) := by
  have HJ := Lib.hid hJ
  have HY := Lib.hid hY
  have H0 : Hid (J [] W ∧ VarIs c S W) := ⟨h0, hc⟩
  clear hJ hY hc h0
  refine callsIn_of_wp Try.func125 rfl trivial ?_ rfl
  simp only [Try.ntmps125, List.size_toArray, List.length_cons, List.length_nil, Nat.reduceAdd, Nat.reduceSub, Array.replicate_succ, Array.replicate_zero, List.push_toArray, List.append_toArray, List.nil_append, List.cons_append]
  gi_wp2
  gi_loopw [5] (fun _ wr => ∃ (pre : List (List UInt8)) (rest : List UInt8), rest.length ≤ 9223372036854775807 ∧ Hid (piecesL S = pre ++ piecesL rest) ∧ Hid (J pre wr ∧ VarIs c rest wr)) (fun _ wr => strAt c wr)
  case atStart => exact ⟨[], S, hS, rfl, H0⟩
  case round =>
    obtain ⟨pre, rest, hrl, HP, HJV⟩ := hrel
    have hv := HJV.out.2
    have hc0 : wr.cell? ⟨c, 0, none⟩ = some (sv rest) := by rw [blk_cell hv]; rfl
    rcases cut_at rest with hno | ⟨a, b, rfl, hno⟩
    · have HC := Lib.hid (fun W => Cut_no rest W hno hrl)
      have HPP : Hid (piecesL S = pre ++ [rest]) := by rw [Hid, HP.out, pieces_no rest hno]
      clear hno hv
      gi_wp2_with fail
      refine ⟨trivial, (fun h => by cases h), (callsIn_wide.2 (HC.out _)).mono ?_⟩
      rintro e w1 ⟨rfl, hb1⟩
      have HJ1 : Hid (J pre w1) := HJ.out pre _ _ HJV.out.1 (Chg.of_below hb1) (fun b o _ ho _ => blk_below ho hb1)
      obtain ⟨fn, tmps, assign, body, hy, hR⟩ := HY.out pre rest w1 HJ1.out (by rw [HPP.out]; exact List.prefix_refl _)
      have HR := Lib.hid hR
      clear hR hb1
      gi_wp2_with fail
      refine ⟨(fun h => by cases h), HR.out.mono ?_⟩
      rintro e W3 (⟨rfl, hJ3, _⟩ | ⟨rfl, hJx3⟩)
      · have HJ3 := Lib.hid hJ3
        clear hJ3 hy
        gi_wp2_with fail
        refine bodyPost_ret (results_none rfl _ _ _) rfl ?_
        exact ⟨⟨_, rfl⟩, .inl (by rw [HPP.out]; exact HJ3.out)⟩
      · have HJ3 := Lib.hid hJx3
        clear hJx3 hy
        gi_wp2_with fail
        refine bodyPost_ret (results_none rfl _ _ _) rfl ?_
        exact ⟨⟨_, rfl⟩, .inr ⟨_, by rw [HPP.out]; exact List.prefix_refl _, HJ3.out⟩⟩
    · have HC := Lib.hid (fun W => Cut_yes a b W hno hrl)
      have HPP : Hid (piecesL S = (pre ++ [a]) ++ piecesL b) := by rw [Hid, HP.out, pieces_yes a b hno]; simp
      have HM : Hid (strAt c wr = (a ++ 47 :: b).length) := strAt_eq hv
      have hbl : b.length ≤ 9223372036854775807 := by simp at hrl; omega
      have HV := Lib.hid hv
      clear hno hv
      gi_wp2_with fail
      refine ⟨trivial, (fun h => by cases h), (callsIn_wide.2 (HC.out _)).mono ?_⟩
      rintro e w1 ⟨rfl, hb1⟩
      have HJ1 : Hid (J pre w1) := HJ.out pre _ _ HJV.out.1 (Chg.of_below hb1) (fun b o _ ho _ => blk_below ho hb1)
      have HV1 := Lib.hid (blk_below HV.out hb1)
      obtain ⟨fn, tmps, assign, body, hy, hR⟩ := HY.out pre a w1 HJ1.out (by rw [HPP.out]; exact List.prefix_append _ _)
      have HR := Lib.hid hR
      clear hR hb1 hc0
      gi_wp2_with fail
      refine ⟨(fun h => by cases h), HR.out.mono ?_⟩
      rintro e W3 (⟨rfl, hJ3, hk3⟩ | ⟨rfl, hJx3⟩)
      · have hv3 := hk3.trans HV1.out
        have HJ3 := Lib.hid hJ3
        have hc3 : W3.cell? ⟨c, 0, none⟩ = some (sv (a ++ 47 :: b)) := by rw [blk_cell hv3]; rfl
        have hf3 : W3.frozen? ⟨c, 0, none⟩ = false := blk_free hv3 0
        have HV4 : Hid (VarIs c b (W3.setCell ⟨c, 0, none⟩ (sv b))) := blk_set hv3 0 (sv b)
        have HJ4 : Hid (J (pre ++ [a]) (W3.setCell ⟨c, 0, none⟩ (sv b))) := HJ.out _ _ _ HJ3.out (Chg.set _ _) (fun b o _ ho hno => by
          have hne : b ≠ c := by rintro rfl; rw [hv3] at ho; cases ho; cases hno
          rw [Below.heap_setCell _ _ _ _ hne]; exact ho)
        have HM4 := Lib.hid (strAt_eq HV4.out)
        clear hJ3 hy hk3 hv3
        gi_wp2_with fail
        go_roundw
        case rel => exact ⟨pre ++ [a], b, hbl, HPP, HJ4.out, HV4.out⟩
        case measure => rw [HM.out, HM4.out]; simp; omega
      · have HJ3 := Lib.hid hJx3
        clear hJx3 hy
        gi_wp2_with fail
        refine bodyPost_ret (results_none rfl _ _ _) rfl ?_
        exact ⟨⟨_, rfl⟩, .inr ⟨_, by rw [HPP.out]; exact List.prefix_append _ _, HJ3.out⟩⟩
/-- How a round's body may be left. -/
def Post (B c : Nat) (I : List (List UInt8) → World → Prop) (Ix : Code → List (List UInt8) → World → Prop) (xs : List (List UInt8)) (W : World) : Exit → Act → World → Prop
  | .normal, _, W' => Keeps B c W W' ∧ I xs W'
  | .ret, _, W' => Keeps B c W W' ∧ Ix .ret xs W'
  | .exit id, _, W' => Keeps B c W W' ∧ Ix (.exit id) xs W'
  | .goto t, _, W' => Keeps B c W W' ∧ Ix (.goto t) xs W'
  | .panic _, _, _ => False
  | .outgrown, _, _ => False
/-- A range over the pieces of the text in the variable c. -/
theorem rangePieces {n : Nat} {g : Operand} {p : Tmp} {assign body : Code} {Q : Exit → Act → World → Prop} {a : Act} {w : World} (c : Nat) (S : List UInt8) (hS : S.length ≤ 9223372036854775807)
    (hg : a.eval g = .func (.func 125) #[] #[.pointer (some ⟨c, 0, none⟩)]) (hv : VarIs c S w)
    (I : List (List UInt8) → World → Prop) (Ix : Code → List (List UInt8) → World → Prop) (hI : ∀ pre W W', Chg w.heap.size c W W' → I pre W → I pre W') (hIx : ∀ k pre W W', Chg w.heap.size c W W' → Ix k pre W → Ix k pre W')
    (h0 : I [] w) (a₁ : List UInt8 → Act)
    (hassign : ∀ (l : Nat) (x : List UInt8) (W : World) (K : Act → World → Prop), K (a₁ x) W →
      assign.wpIn (Fence.wide.inRound l) (n - 1 - 1) Try.prog (Exit.then K (fun _ _ _ => False)) { tmps := a.tmps.setIfInBounds p (sv x), defers := [] } W)
    (hbody : ∀ (l : Nat) (pre : List (List UInt8)) (x : List UInt8) (W : World), w.heap.size ≤ W.heap.size → I pre W → (pre ++ [x]) <+: piecesL S → body.wpIn (Fence.wide.inRound l) (n - 1 - 1) Try.prog (Post w.heap.size c I Ix (pre ++ [x]) W) (a₁ x) W)
    (hdone : ∀ (D : Nat) (W : World), w.heap.size ≤ D → I (piecesL S) W → W.heap[D]? = some (.deferred (some [])) → Q .normal { a with defers := { target := .collected D, args := #[] } :: a.defers } W)
    (hstop : ∀ (D : Nat) (k : Code) (pre : List (List UInt8)) (W : World), w.heap.size ≤ D → pre <+: piecesL S → Ix k pre W → W.heap[D]? = some (.deferred (some [])) → k.wpIn Fence.wide n Try.prog Q { a with defers := { target := .collected D, args := #[] } :: a.defers } W) :
    (Code.rangeFunc g #[p] assign body).wpIn Fence.wide n Try.prog Q a w := by
  refine wpIn_rangeFunc ?_
  intro fn hfn
  show ∃ _, _
  have hcl : c < w.heap.size := blk_lt hv
  obtain ⟨rec, hrec⟩ : ∃ rec : LoopState → Option Code → Loop, rec = fun st pe => { state := st, pending := pe, fn, tmps := a.tmps, params := #[p], assign, body, defers := w.heap.size } := ⟨_, rfl⟩
  obtain ⟨W1, hW1⟩ : ∃ W1, (w.alloc (.deferred (some []))).alloc (.loop (rec .ready none)) = W1 := ⟨_, rfl⟩
  have hL1 : W1.heap[w.heap.size + 1]? = some (.loop (rec .ready none)) := by
    rw [← hW1]; have := blk_new (w.alloc (.deferred (some []))) (.loop (rec .ready none)); rwa [World.size_alloc] at this
  have hD1 : W1.heap[w.heap.size]? = some (.deferred (some [])) := by rw [← hW1]; exact blk_old (blk_new w _) _
  have hC1 : Chg w.heap.size c w W1 := by rw [← hW1]; exact (Chg.alloc _ _).trans (Chg.alloc _ _)
  have hV1 : VarIs c S W1 := by rw [← hW1]; exact blk_old (blk_old hv _) _
  have hI1 : I [] W1 := hI _ _ _ hC1 h0
  refine ⟨w.heap.size + 1, [{ target := .collected w.heap.size, args := #[] }], W1, { target := .fn (.func 125) #[.pointer (some ⟨c, 0, none⟩)], args := #[.func (.yield (w.heap.size + 1)) #[] #[]] }, W1, 125,
    #[.func (.yield (w.heap.size + 1)) #[] #[]] ++ #[.pointer (some ⟨c, 0, none⟩)], W1, ?_, ?_, fun _ _ => trivial, ?_, (fun h => by cases h), ?_⟩
  · rw [← hW1, hrec]; exact run_enterLoop_outer _ _ _ _ _
  · simp only [resolve, hg]
    simp [go_sem]
  · simp [invoke, go_sem, enters_of Try.func125 (by kernel_rfl) rfl]
  · refine (pieces_in (n - 1) (w.heap.size + 1) c S hS
      (fun pre W => w.heap.size ≤ W.heap.size ∧ I pre W ∧ W.heap[w.heap.size + 1]? = some (.loop (rec .ready none)) ∧ W.heap[w.heap.size]? = some (.deferred (some [])))
      (fun pre W => ∃ k, Ix k pre W ∧ W.heap[w.heap.size + 1]? = some (.loop (rec .done (some k))) ∧ W.heap[w.heap.size]? = some (.deferred (some []))) w.heap.size
      (fun pre W W' h hc ho => ⟨Nat.le_trans h.1 hc.size, hI _ _ _ hc h.2.1, ho _ _ (by omega) h.2.2.1 rfl, ho _ _ (Nat.le_refl _) h.2.2.2 rfl⟩) ?_ W1 hV1 ⟨hC1.size, hI1, hL1, hD1⟩).mono ?_
    · rintro pre x W ⟨hsz, hi, hl, hk⟩ hpre
      have hlt : w.heap.size + 1 < W.heap.size := blk_lt hl
      have hy := run_yield (P := Try.prog) (args := #[sv x]) hl (by rw [hrec]; rfl)
      rw [hrec] at hy
      have hy' : (Instr.yield (w.heap.size + 1) #[sv x]).run Try.prog W = .ok (.round (w.heap.size + 1) fn (a.tmps.setIfInBounds p (sv x)) assign body) W := by rw [hy]; simp
      refine ⟨fn, _, assign, body, hy', roundIn_of_wpIn hfn ?_⟩
      refine hassign (w.heap.size + 1) x W _ ?_
      refine ⟨_, run_beginRound hl (by rw [hrec]), ?_⟩
      have hl2 : (W.putObj (w.heap.size + 1) (.loop { rec .ready none with state := .busy })).heap[w.heap.size + 1]? = some (.loop { rec .ready none with state := .busy }) := World.putObj_heap_same hlt
      have hk2 : (W.putObj (w.heap.size + 1) (.loop { rec .ready none with state := .busy })).heap[w.heap.size]? = some (.deferred (some [])) := (World.putObj_heap_other (by omega)).trans hk
      have hcv : (W.putObj (w.heap.size + 1) (.loop { rec .ready none with state := .busy })).heap[c]? = W.heap[c]? := World.putObj_heap_other (by omega)
      refine wpIn_mono (hbody _ pre x _ (by simp; omega) (hI _ _ _ (Chg.put _ (by omega) hl rfl) hi) hpre) ?_
      have fin : ∀ (jump : Option Code) (W3 : World), Keeps w.heap.size c (W.putObj (w.heap.size + 1) (.loop { rec .ready none with state := .busy })) W3 →
          (Instr.endRound (w.heap.size + 1) jump).run Try.prog W3 = .ok (.bool jump.isNone) (W3.putObj (w.heap.size + 1) (.loop (rec (if jump.isNone then .ready else .done) jump))) ∧
          W3.heap[w.heap.size + 1]? = some (.loop { rec .ready none with state := .busy }) ∧
          (W3.putObj (w.heap.size + 1) (.loop (rec (if jump.isNone then .ready else .done) jump))).heap[w.heap.size + 1]? = some (.loop (rec (if jump.isNone then .ready else .done) jump)) ∧
          (W3.putObj (w.heap.size + 1) (.loop (rec (if jump.isNone then .ready else .done) jump))).heap[w.heap.size]? = some (.deferred (some [])) := fun jump W3 hk3 => by
        have hl3 := hk3.other _ _ (by omega) hl2 rfl
        have := run_endRound (P := Try.prog) jump hl3
        rw [hrec] at this ⊢
        exact ⟨this, by rw [hrec] at hl3; exact hl3, World.putObj_heap_same (blk_lt hl3), (World.putObj_heap_other (by omega)).trans (hk3.other _ _ (Nat.le_refl _) hk2 rfl)⟩
      rintro e a3 W3 hp
      cases e with
      | normal =>
        obtain ⟨hk3, hi3⟩ := hp
        obtain ⟨hr, hl3, hl4, hk4⟩ := fin none W3 hk3
        refine ⟨_, _, hr, .inl ⟨rfl, ⟨?_, hI _ _ _ (Chg.put _ (by omega) hl3 rfl) hi3, hl4, hk4⟩, ?_⟩⟩
        · have := hk3.size; simp at this ⊢; omega
        · rw [World.putObj_heap_other (by omega), hk3.var, hcv]
      | ret =>
        obtain ⟨hk3, hi3⟩ := hp
        obtain ⟨hr, hl3, hl4, hk4⟩ := fin (some .ret) W3 hk3
        exact ⟨_, _, hr, .inr ⟨rfl, .ret, hIx _ _ _ _ (Chg.put _ (by omega) hl3 rfl) hi3, hl4, hk4⟩⟩
      | exit id =>
        obtain ⟨hk3, hi3⟩ := hp
        obtain ⟨hr, hl3, hl4, hk4⟩ := fin (some (.exit id)) W3 hk3
        exact ⟨_, _, hr, .inr ⟨rfl, .exit id, hIx _ _ _ _ (Chg.put _ (by omega) hl3 rfl) hi3, hl4, hk4⟩⟩
      | goto t =>
        obtain ⟨hk3, hi3⟩ := hp
        obtain ⟨hr, hl3, hl4, hk4⟩ := fin (some (.goto t)) W3 hk3
        exact ⟨_, _, hr, .inr ⟨rfl, .goto t, hIx _ _ _ _ (Chg.put _ (by omega) hl3 rfl) hi3, hl4, hk4⟩⟩
      | panic ch => exact hp.elim
      | outgrown => exact hp.elim
    · rintro e W2 ⟨⟨v, rfl⟩, (⟨hsz, hi, hl, hk⟩ | ⟨pre, hpre, k, hi, hl, hk⟩)⟩
      · exact ⟨none, _, by have := run_endLoop (P := Try.prog) hl (by rw [hrec]; simp); rw [hrec] at this; exact this, hdone _ _ (Nat.le_refl _) (hI _ _ _ (Chg.put _ (by omega) hl rfl) hi) ((World.putObj_heap_other (by omega)).trans hk)⟩
      · exact ⟨some k, _, by have := run_endLoop (P := Try.prog) hl (by rw [hrec]; simp); rw [hrec] at this; exact this, hstop _ k pre _ (Nat.le_refl _) hpre (hIx _ _ _ _ (Chg.put _ (by omega) hl rfl) hi) ((World.putObj_heap_other (by omega)).trans hk)⟩
end Go.Proofs.Ytifhnpkapgaboaa.path
