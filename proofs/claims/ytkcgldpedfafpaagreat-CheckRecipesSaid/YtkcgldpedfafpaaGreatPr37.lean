/-
  Proved: what the document's checker's Script, path and step do. Conditions: as each theorem says.
-/
import Derived.Test.YtkcgldpedfafpaaGreatPr36
import Derived.StillTailTactics
namespace Go.Proofs.YtkcgldpedfafpaaGreat.rck
open Go.RowKit
open heap
open par (Nd KV ndV ndO cnt9 cntL)
open chk (Nm CS cflt faultOf after nodeR kidsR nodeP atOf errOf okp pathF stepF kidAt Ft)
open lex (run_store_float)
open many (fnL fnT)
open path (SRow sv cleanR)
set_option linter.unusedVariables false
set_option linter.unusedSimpArgs false
set_option maxRecDepth 100000
attribute [local go_sem] run_store_float

theorem node_first (x : Nd) : ((nodeR fnT x ⟨[], 0, 0⟩).bad, (nodeR fnT x ⟨[], 0, 0⟩).code) = atOf (errOf (nodeP fnT x [])) := by
 have h := chk.node_agree fnT x ⟨[], 0, 0⟩ rfl
 unfold chk.Agree at h
 cases hp : nodeP fnT x [] with
 | ok s =>
  rw [hp] at h
  have h : nodeR fnT x ⟨[], 0, 0⟩ = _ := h
  rw [h]; rfl
 | error e =>
  rw [hp] at h
  have h : (nodeR fnT x ⟨[], 0, 0⟩).code = e.2 ∧ (nodeR fnT x ⟨[], 0, 0⟩).bad = e.1 ∧ e.2 ≠ 0 := h
  rw [h.1, h.2.1]; rfl
set_option maxHeartbeats 1000000 in
theorem rScript_any (d : Nat) (x : Nd) (a : Option Addr) (n : Nat) (S : List Nat) (w : World) (hk : KV 25 w d x.kids (.slice a x.kids.length n) S) (hc : cnt9 x ≤ 1000000) :
  Calls Tryz.prog 14 #[ndV x (.slice a x.kids.length n)] w fun e w' => e = .returned (.tuple #[.int .i64 (atOf (errOf (nodeP fnT x []))).1, .int .i64 (atOf (errOf (nodeP fnT x []))).2]) ∧ Below w.heap.size w w' := by
 have HF := Lib.hid (node_first x)
 have HN := Lib.hid (fun (B q : Nat) (v : Value) (W : World) (h1 : Below w.heap.size w W) (hB : w.heap.size ≤ B) (h2 : CkR W B q v ⟨[], 0, 0⟩) => node_all d x a n S B q v ⟨[], 0, 0⟩ W (hk.below h1) (fun b hb => Nat.lt_of_lt_of_le (hk.lt d b hb) hB) h2 (by show 0 + _ ≤ _; omega))
 clear hk hc
 go_enter Tryz.func14, Tryz.ntmps14
 go_wp2_with fail
 have hW : Below w.heap.size w ((w.alloc (ndO x (.slice a x.kids.length n))).alloc (.cells #[.slice none 0 0, .int .i64 0, .int .i64 0] 52 (0, 0))) := ((Below.refl _ _).alloc (Nat.le_refl _) _).alloc (by simp) _
 have hq := blk_new (w.alloc (ndO x (.slice a x.kids.length n))) (.cells #[.slice none 0 0, .int .i64 0, .int .i64 0] 52 (0, 0))
 rw [show (w.alloc (ndO x (.slice a x.kids.length n))).heap.size = w.heap.size + 1 by simp] at hq
 have hck : CkR _ w.heap.size (w.heap.size + 1) (.slice none 0 0) ⟨[], 0, 0⟩ := ⟨hq, World.ownsRow_nil _ _ _ _, by omega, by simp; omega, by simp [Value.ownBlock]⟩
 refine (HN.out _ _ _ _ hW (Nat.le_refl _) hck).mono ?_; rintro e w3 ⟨rfl, v3, hc3, hg3⟩
 have HB : Hid (Below w.heap.size w w3) := hW.trans (hg3.below hck)
 have k0 := blk_cell (hc3.blk) 0
 have k1 := blk_cell (hc3.blk) 1
 have k2 := blk_cell (hc3.blk) 2
 have kf0 := blk_free (hc3.blk) 0
 have kf1 := blk_free (hc3.blk) 1
 have kf2 := blk_free (hc3.blk) 2
 have kl := blk_lt (hc3.blk)
 simp only [List.getElem?_toArray, List.getElem?_cons_zero, List.getElem?_cons_succ] at k0 k1 k2
 clear hW hq hck hc3 hg3 HN
 go_wp2_with fail
 go_still (by kernel_rfl)
 change Exit.then _ _ Exit.normal _ w3.drew
 go_wp2_with fail
 go_ret2
 exact ⟨by have := HF.out; rw [← this]; rfl, HB.out.drew⟩
abbrev ckF (F : Ft) : Obj := .cells #[.slice none 0 0, .int .i64 (atOf F).2, .int .i64 (atOf F).1] 52 (0, 0)
def okF (F : Ft) : Prop := ∀ e, F = some e → e.2 ≠ 0
theorem okF.or {F G : Ft} (h : okF F) (k : okF G) : okF (F.or G) := fun e he => by
 cases F with
 | none => exact k e he
 | some f => exact h e he
theorem ck_of {w : World} {q : Nat} {F : Ft} (h : w.heap[q]? = some (ckF F)) : CkR w 0 q (.slice none 0 0) ⟨[], (atOf F).2, (atOf F).1⟩ := ⟨h, World.ownsRow_nil _ _ _ _, Nat.zero_le _, Nat.zero_le _, by simp [Value.ownBlock]⟩
theorem chg_nil {q : Nat} {w w' : World} {v' : Value} (h : Chg q (.slice none 0 0) w w' v') : Turned [q] w w' := h.t
theorem fault_f (q : Nat) (F : Ft) (code a : Int) (w : World) (h : w.heap[q]? = some (ckF F)) (hF : okF F) (hc : code ≠ 0) :
  Calls Tryz.prog 20 #[PP q, .int .i64 code, .int .i64 a] w fun e w' => e = .returned (.tuple #[]) ∧ w'.heap[q]? = some (ckF (F.or (some (a, code)))) ∧ Turned [q] w w' := by
 refine (fault_any 0 q _ _ code a w (ck_of h)).mono ?_
 rintro e w' ⟨rfl, hck, hg⟩
 refine ⟨rfl, ?_, chg_nil hg⟩
 rw [hck.blk]
 cases F with
 | none => rfl
 | some f =>
  have := hF f rfl
  unfold cflt
  rw [if_neg (show ¬ (atOf (some f)).2 = 0 from this)]
  rfl
end Go.Proofs.YtkcgldpedfafpaaGreat.rck
