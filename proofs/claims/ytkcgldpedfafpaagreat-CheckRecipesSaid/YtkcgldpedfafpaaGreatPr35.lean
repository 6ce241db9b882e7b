/-
  Proved: what the document's checker's small functions do: Find, known, fault. Conditions: as each theorem says.
-/
import Derived.Test.YtkcgldpedfafpaaGreatPr34
namespace Go.Proofs.YtkcgldpedfafpaaGreat.rck
open Go.RowKit
open heap
open par (Nd KV ndV ndO)
open chk (Nm CS cflt)
open lex (run_store_float)
open many (fnL fnT)
open path (SRow sv)
set_option linter.unusedVariables false
set_option linter.unusedSimpArgs false
set_option maxRecDepth 100000
attribute [local go_sem] run_store_float

def FindP (t : Nm) (w : World) (e : Ending) (w' : World) : Prop := ∃ (nm : Nm) (n k : Int), e = .returned (.tuple #[.agg #[.string ⟨nm.toArray⟩, .int .i64 n, .int .i64 k], .bool (fnT t).isSome]) ∧ (∀ m, fnT t = some m → n = m) ∧ Below w.heap.size w w'
theorem res3 {W : World} {b : Nat} {u0 u1 u2 : Value} {t : TypeId} (h : W.heap[b]? = some (.cells #[u0, u1, u2] t (0, 0))) (x0 x1 x2 : Value) :
  (((W.setCell ⟨b, 0, none⟩ x0).setCell ⟨b, 1, none⟩ x1).setCell ⟨b, 2, none⟩ x2).heap[b]? = some (.cells #[x0, x1, x2] t (0, 0)) := blk_set (blk_set (blk_set h 0 x0) 1 x1) 2 x2
theorem turned3 (W : World) (b : Nat) (x0 x1 x2 : Value) : Turned [b] W (((W.setCell ⟨b, 0, none⟩ x0).setCell ⟨b, 1, none⟩ x1).setCell ⟨b, 2, none⟩ x2) :=
 (((Turned.refl _ _).setCell (by simp) _).setCell (by simp) _).setCell (by simp) _
set_option maxHeartbeats 1000000 in
theorem Find_any (t : Nm) (w : World) : Calls Tryz.prog 44 #[.string ⟨t.toArray⟩] w (FindP t w) := by
 have HF := Lib.hid (fun W => Functions_any W)
 go_enter Tryz.func44, Tryz.ntmps44
 go_wp2_with fail
 refine (HF.out _).mono ?_; rintro e w1 ⟨rfl, hg, hb⟩
 have hres : w1.heap[w.heap.size]? = some (.cells #[.string ⟨#[]⟩, .int .i64 0, .int .i64 0] 77 (0, 0)) := blk_below (blk_new w _) hb
 have HB : Hid (Below w.heap.size w w1) := ((Below.refl _ _).alloc (Nat.le_refl _) _).trans (hb.mono (by simp))
 have HG := Lib.hid hg
 have r0 := blk_cell (hres) 0
 have r1 := blk_cell (hres) 1
 have r2 := blk_cell (hres) 2
 have rf0 := blk_free (hres) 0
 have rf1 := blk_free (hres) 1
 have rf2 := blk_free (hres) 2
 have rl := blk_lt (hres)
 simp only [List.getElem?_toArray, List.getElem?_cons_zero, List.getElem?_cons_succ] at r0 r1 r2
 have HRES := Lib.hid hres
 clear hg hres hb HF
 generalize (w.alloc _).heap.size = gf at *
 go_wp2_with fail
 go_loopg [5] 22 (fun kk v5 wr => ∃ i : Nat, i + kk = 22 ∧ v5 = .int .i64 i ∧ w1 = wr ∧ ∀ j, j < i → ∀ y, fnL[j]? = some y → (y.1 == t) = false)
 case atStart => exact ⟨0, by omega, rfl, rfl, fun j hj => by omega⟩
 case round =>
  obtain ⟨i, hik, rfl, rfl, hno⟩ := hrel
  by_cases hlt : i < 22
  ·cases gk with
   | zero => omega
   | succ gk =>
   obtain ⟨z, hz⟩ : ∃ z, fnL[i]? = some z := ⟨_, List.getElem?_eq_getElem (by show i < 22; exact hlt)⟩
   obtain ⟨a0, a1, a2⟩ := fnA_at i z hz
   have t0 := blk_cell HG.out (i * 3)
   have t1 := blk_cell HG.out (i * 3 + 1)
   have t2 := blk_cell HG.out (i * 3 + 2)
   rw [a0] at t0
   rw [a1] at t1
   rw [a2] at t2
   clear a0 a1 a2
   have htl := blk_lt HG.out
   cases hzt : (z.1 == t) with
   | false =>
    have HNO : Hid (∀ j, j < i + 1 → ∀ y, fnL[j]? = some y → (y.1 == t) = false) := by
     intro j hj y hy
     by_cases e : j = i
     ·subst e; rw [hz] at hy; cases hy; exact hzt
     ·exact hno j (by omega) y hy
    clear hno hz
    go_wp2_with fail
    go_roundg gk
    case rel => exact ⟨i + 1, by omega, by go_num, rfl, HNO.out⟩
    case measure => omega
   | true =>
    have hft : fnT t = some z.2 := by
     unfold fnT
     rw [look_hit t fnL i z hno hz hzt]; rfl
    have HFT := Lib.hid hft
    clear hno hz hft
    go_wp2_with fail
    have h3 := res3 HRES.out (.string ⟨z.1.toArray⟩) (.int .i64 z.2) (.int .i64 (fnK i))
    have ht := turned3 w1 w.heap.size (.string ⟨z.1.toArray⟩) (.int .i64 z.2) (.int .i64 (fnK i))
    generalize (((w1.setCell _ _).setCell _ _).setCell _ _) = wf at h3 ht ⊢
    clear r0 r1 r2 rf0 rf1 rf2 rl
    have z0 := blk_cell (h3) 0
    have z1 := blk_cell (h3) 1
    have z2 := blk_cell (h3) 2
    have zf0 := blk_free (h3) 0
    have zf1 := blk_free (h3) 1
    have zf2 := blk_free (h3) 2
    have zl := blk_lt (h3)
    simp only [List.getElem?_toArray, List.getElem?_cons_zero, List.getElem?_cons_succ] at z0 z1 z2
    clear h3
    refine bodyPost_ret (v := .tuple #[.agg #[.string ⟨z.1.toArray⟩, .int .i64 z.2, .int .i64 (fnK i)], .bool true]) (by simp [results, Tryz.results44, go_sem, z0, z1, z2]) rfl ?_
    exact ⟨z.1, z.2, fnK i, by rw [HFT.out]; rfl, fun m hm => by rw [HFT.out] at hm; exact Option.some.inj hm, HB.out.trans (ht.below HB.out.size (by simp))⟩
  ·have hik2 : i = 22 := by omega
   subst hik2
   have hft : fnT t = none := by
    unfold fnT
    rw [look_miss t fnL hno]; rfl
   have HFT := Lib.hid hft
   clear hno hft
   go_wp2_with fail
   have h3 := res3 HRES.out (.string ⟨#[]⟩) (.int .i64 0) (.int .i64 0)
   have ht := turned3 w1 w.heap.size (.string ⟨#[]⟩) (.int .i64 0) (.int .i64 0)
   generalize (((w1.setCell _ _).setCell _ _).setCell _ _) = wf at h3 ht ⊢
   clear r0 r1 r2 rf0 rf1 rf2 rl
   have z0 := blk_cell (h3) 0
   have z1 := blk_cell (h3) 1
   have z2 := blk_cell (h3) 2
   have zf0 := blk_free (h3) 0
   have zf1 := blk_free (h3) 1
   have zf2 := blk_free (h3) 2
   have zl := blk_lt (h3)
   simp only [List.getElem?_toArray, List.getElem?_cons_zero, List.getElem?_cons_succ] at z0 z1 z2
   clear h3
   refine bodyPost_ret (v := .tuple #[.agg #[.string ⟨#[]⟩, .int .i64 0, .int .i64 0], .bool false]) (by simp [results, Tryz.results44, go_sem, z0, z1, z2]) rfl ?_
   exact ⟨[], 0, 0, by rw [HFT.out]; rfl, fun m hm => (by rw [HFT.out] at hm; cases hm), HB.out.trans (ht.below HB.out.size (by simp))⟩
abbrev PP (q : Nat) : Value := .pointer (some ⟨q, 0, none⟩)
/-- The document's checker in memory. -/
structure CkR (w : World) (B q : Nat) (v : Value) (c : CS) : Prop where
 blk : w.heap[q]? = some (.cells #[v, .int .i64 c.code, .int .i64 c.bad] 52 (0, 0))
 row : SRow w B v c.set
 hq : B ≤ q
 hw : B ≤ w.heap.size
 ne : v.ownBlock ≠ some q
theorem CkR.below {w w' : World} {B q : Nat} {v : Value} {c : CS} (h : CkR w B q v c) (hb : Below w.heap.size w w') : CkR w' B q v c := ⟨blk_below h.blk hb, h.row.below hb, h.hq, Nat.le_trans h.hw hb.size, h.ne⟩
theorem CkR.slice {w : World} {B q : Nat} {v : Value} {c : CS} (h : CkR w B q v c) : ∃ a n, v = .slice a c.set.length n := by
 rcases path.SRow.cells h.row with ⟨h1, h2⟩ | ⟨g, n, h1, _⟩
 ·exact ⟨none, 0, by rw [h1, h2]; rfl⟩
 ·exact ⟨_, n, h1⟩
/-- What the checker's methods turn: its block, its row; the row stays or is a new one. -/
structure Chg (q : Nat) (v : Value) (w w' : World) (v' : Value) : Prop where
 t : Turned (q :: v.ownBlock.toList) w w'
 own : v'.ownBlock = v.ownBlock ∨ ∀ g ∈ v'.ownBlock.toList, w.heap.size ≤ g
theorem Chg.refl (q : Nat) (v : Value) (w : World) : Chg q v w w v := ⟨Turned.refl _ _, .inl rfl⟩
theorem Chg.ext {q : Nat} {v : Value} {w w' : World} (h : Below w.heap.size w w') : Chg q v w w' v := ⟨Turned.of_below h, .inl rfl⟩
theorem Chg.trans {q : Nat} {v v' v'' : Value} {w w' w'' : World} (h : Chg q v w w' v') (k : Chg q v' w' w'' v'') : Chg q v w w'' v'' := by
 refine ⟨⟨k.t.os.trans h.t.os, k.t.tape.trans h.t.tape, k.t.output.trans h.t.output, Nat.le_trans h.t.size k.t.size, fun b hb hn => ?_⟩, ?_⟩
 ·rw [k.t.block b (Nat.lt_of_lt_of_le hb h.t.size) (fun hm => ?_), h.t.block b hb hn]
  rcases List.mem_cons.1 hm with e | hm
  ·exact hn (e ▸ List.mem_cons_self ..)
  ·rcases h.own with e | e
   ·rw [e] at hm; exact hn (List.mem_cons_of_mem _ hm)
   ·have := e b hm; omega
 ·rcases k.own with e | e
  ·rcases h.own with e2 | e2
   ·exact .inl (e.trans e2)
   ·exact .inr (by rw [e]; exact e2)
  ·exact .inr (fun g hg => Nat.le_trans h.t.size (e g hg))
theorem row_base {w : World} {B : Nat} {v : Value} {l : List Nm} (h : SRow w B v l) : ∀ g ∈ v.ownBlock.toList, B ≤ g ∧ g < w.heap.size := fun g hg => World.ownsRow.lt h g (by simpa using hg)
theorem Chg.below {q B : Nat} {v v' : Value} {w w' : World} {c : CS} (h : Chg q v w w' v') (hc : CkR w B q v c) : Below B w w' := h.t.below hc.hw (fun k hk => by
 rcases List.mem_cons.1 hk with e | hk
 ·rw [e]; exact hc.hq
 ·exact (row_base hc.row k hk).1)
theorem known_any (B q : Nat) (v : Value) (c : CS) (t : Nm) (w : World) (h : CkR w B q v c) (hn : c.set.length ≤ 1000000) :
  Calls Tryz.prog 43 #[PP q, .string ⟨t.toArray⟩] w fun e w' => e = .returned (.bool (c.set.contains t)) ∧ w = w' := by
 have hrow := path.SRow.cells h.row
 obtain ⟨a, n, rfl⟩ := h.slice
 have k0 := blk_cell (h.blk) 0
 have k1 := blk_cell (h.blk) 1
 have k2 := blk_cell (h.blk) 2
 have kf0 := blk_free (h.blk) 0
 have kf1 := blk_free (h.blk) 1
 have kf2 := blk_free (h.blk) 2
 have kl := blk_lt (h.blk)
 simp only [List.getElem?_toArray, List.getElem?_cons_zero, List.getElem?_cons_succ] at k0 k1 k2
 clear h
 go_enter Tryz.func43, Tryz.ntmps43
 go_wp2_with fail
 go_loopg [5] c.set.length (fun kk v5 wr => ∃ i : Nat, i + kk = c.set.length ∧ v5 = .int .i64 i ∧ w = wr ∧ ∀ j, j < i → ∀ y, c.set[j]? = some y → (y == t) = false)
 case atStart => exact ⟨0, by omega, rfl, rfl, fun j hj => by omega⟩
 case round =>
  obtain ⟨i, hik, rfl, rfl, hno⟩ := hrel
  by_cases hlt : i < c.set.length
  ·cases gk with
   | zero => omega
   | succ gk =>
   have hy : c.set[i]? = some c.set[i] := List.getElem?_eq_getElem hlt
   generalize c.set[i] = y at hy
   rcases hrow with ⟨h1, h2⟩ | ⟨g, n', h1, hg, hc1, hc2, hcl⟩
   ·rw [h2] at hlt; exact absurd hlt (by simp)
   ·cases h1
    have s0 := hcl i y hy
    cases hyt : (y == t) with
    | false =>
     have HNO : Hid (∀ j, j < i + 1 → ∀ y, c.set[j]? = some y → (y == t) = false) := by
      intro j hj x hx
      by_cases e : j = i
      ·subst e; rw [hy] at hx; cases hx; exact hyt
      ·exact hno j (by omega) x hx
     clear hno hy hcl
     go_wp2_with fail
     go_roundg gk
     case rel => exact ⟨i + 1, by omega, by go_num, rfl, HNO.out⟩
     case measure => omega
    | true =>
     have hc : c.set.contains t = true := by
      rw [List.contains_iff_mem]
      have := eq_of_beq hyt
      subst this
      exact List.mem_of_getElem? hy
     have HC := Lib.hid hc
     clear hno hy hcl hc
     go_wp2_with fail
     go_ret
     exact ⟨by rw [HC.out]; rfl, rfl⟩
  ·have hik2 : i = c.set.length := by omega
   have hc : c.set.contains t = false := by
    cases hct : c.set.contains t with
    | false => rfl
    | true =>
     rw [List.contains_iff_mem] at hct
     obtain ⟨j, hj, e⟩ := List.getElem_of_mem hct
     have := hno j (by omega) t (by rw [List.getElem?_eq_getElem hj, e])
     simp at this
   have HC := Lib.hid hc
   clear hno hc hrow
   go_wp2_with fail
   go_ret
   exact ⟨by rw [HC.out]; rfl, rfl⟩
theorem CkR.fault {w w' : World} {B q : Nat} {v : Value} {c : CS} (h : CkR w B q v c) (ht : Turned [q] w w') {code bad : Int} (hb : w'.heap[q]? = some (.cells #[v, .int .i64 code, .int .i64 bad] 52 (0, 0))) : CkR w' B q v ⟨c.set, code, bad⟩ :=
 ⟨hb, h.row.turned ht (fun g hg hm => h.ne (by rw [hg]; simpa using hm)), h.hq, Nat.le_trans h.hw ht.size, h.ne⟩
theorem fault_any (B q : Nat) (v : Value) (c : CS) (code a : Int) (w : World) (h : CkR w B q v c) :
  Calls Tryz.prog 20 #[PP q, .int .i64 code, .int .i64 a] w fun e w' => e = .returned (.tuple #[]) ∧ CkR w' B q v (cflt c code a) ∧ Chg q v w w' v := by
 have H := Lib.hid h
 have k0 := blk_cell (h.blk) 0
 have k1 := blk_cell (h.blk) 1
 have k2 := blk_cell (h.blk) 2
 have kf0 := blk_free (h.blk) 0
 have kf1 := blk_free (h.blk) 1
 have kf2 := blk_free (h.blk) 2
 have kl := blk_lt (h.blk)
 simp only [List.getElem?_toArray, List.getElem?_cons_zero, List.getElem?_cons_succ] at k0 k1 k2
 clear h
 go_enter Tryz.func20, Tryz.ntmps20
 by_cases h0 : c.code = 0
 ·have hcb : (c.code == 0) = true := by simp [h0]
  go_wp2_with fail
  go_end0
  have ht : Turned [q] w ((w.setCell ⟨q, 1, none⟩ (.int .i64 code)).setCell ⟨q, 2, none⟩ (.int .i64 a)) := ((Turned.refl _ _).setCell (by simp) _).setCell (by simp) _
  refine ⟨rfl, ?_, ⟨ht.mono (by simp), .inl rfl⟩⟩
  unfold cflt
  rw [if_pos h0]
  exact H.out.fault ht (blk_set (blk_set H.out.blk 1 _) 2 _)
 ·have hcb : (c.code == 0) = false := beq_eq_false_iff_ne.2 h0
  go_wp2_with fail
  go_end0
  refine ⟨rfl, ?_, Chg.refl _ _ _⟩
  unfold cflt
  rw [if_neg h0]
  exact H.out
end Go.Proofs.YtkcgldpedfafpaaGreat.rck
