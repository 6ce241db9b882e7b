/-
  Proved: what the document's checker's node does. Conditions: as each theorem says.
-/
import Derived.Test.YtkcgldpedfafpaaGreatPr35
import Derived.Deep.RegionLaw
import Derived.Deep.AppendLies
namespace Go.Proofs.YtkcgldpedfafpaaGreat.rck
open Go.RowKit
open heap
open par (Nd KV ndV ndO cnt9 cntL)
open chk (Nm CS cflt faultOf after nodeR kidsR)
open lex (run_store_float)
open many (fnL fnT)
open path (SRow sv)
set_option linter.unusedVariables false
set_option linter.unusedSimpArgs false
set_option maxRecDepth 100000
attribute [local go_sem] run_store_float

/-- Where node stands: behind its box, the checker in the state c. -/
structure NI (B q b1 : Nat) (x : Nd) (vk : Value) (w0 : World) (v0 : Value) (c : CS) (wr : World) (v : Value) : Prop where
 ck : CkR wr B q v c
 box : wr.heap[b1]? = some (ndO x vk)
 chg : Chg q v0 w0 wr v
 nq : b1 ≠ q
 nv : v.ownBlock ≠ some b1
theorem NI.step {B q b1 : Nat} {x : Nd} {vk : Value} {w0 wr w' : World} {v0 v v' : Value} {c c' : CS} (h : NI B q b1 x vk w0 v0 c wr v) (hc : CkR w' B q v' c') (hg : Chg q v wr w' v') : NI B q b1 x vk w0 v0 c' w' v' := by
 have hb := blk_lt h.box
 refine ⟨hc, hg.t.kept h.box (fun hm => ?_), h.chg.trans hg, h.nq, fun e => ?_⟩
 ·rcases List.mem_cons.1 hm with e | hm
  ·exact h.nq e
  ·exact h.nv (by simpa using hm)
 ·rcases hg.own with e2 | e2
  ·exact h.nv (by rw [← e2, e])
  ·have := e2 b1 (by rw [e]; simp); omega
theorem NI.below {B q b1 : Nat} {x : Nd} {vk : Value} {w0 wr w' : World} {v0 v : Value} {c : CS} (h : NI B q b1 x vk w0 v0 c wr v) (hb : Below wr.heap.size wr w') : NI B q b1 x vk w0 v0 c w' v := h.step (h.ck.below hb) (Chg.ext hb)
def NodeP (B q : Nat) (v : Value) (w : World) (c' : CS) (e : Ending) (w' : World) : Prop := e = .returned (.tuple #[]) ∧ ∃ v', CkR w' B q v' c' ∧ Chg q v w w' v'
def NodeAt (d : Nat) : Prop := ∀ (x : Nd) (a : Option Addr) (n : Nat) (S : List Nat) (B q : Nat) (v : Value) (c : CS) (w : World), KV 25 w d x.kids (.slice a x.kids.length n) S → (∀ b ∈ S, b < B) → CkR w B q v c → c.set.length + cnt9 x ≤ 1000000 →
 Calls Tryz.prog 25 #[PP q, ndV x (.slice a x.kids.length n)] w (NodeP B q v w (nodeR fnT x c))
def headC (x : Nd) (c : CS) : CS := if faultOf fnT x.kind x.text x.kids.length c.set = 0 then c else cflt c (faultOf fnT x.kind x.text x.kids.length c.set) x.at'
theorem head_set (x : Nd) (c : CS) : (headC x c).set = c.set := by
 unfold headC cflt; split <;> (try split) <;> rfl
theorem head_of {x : Nd} {c : CS} {f : Int} (h : faultOf fnT x.kind x.text x.kids.length c.set = f) (hf : f ≠ 0) : headC x c = cflt c f x.at' := by unfold headC; rw [h, if_neg hf]
theorem head_ok {x : Nd} {c : CS} (h : faultOf fnT x.kind x.text x.kids.length c.set = 0) : headC x c = c := by unfold headC; rw [if_pos h]
theorem head9_in {x : Nd} {c : CS} (k : x.kind = 9) (hct : c.set.contains x.text = true) : headC x c = c := head_ok (by unfold faultOf; rw [if_pos k, hct]; simp)
theorem head9_many {x : Nd} {c : CS} (k : x.kind = 9) (hct : c.set.contains x.text = false) (h : 32 ≤ c.set.length) : headC x c = cflt c 2004 x.at' := head_of (by unfold faultOf; rw [if_pos k, hct, if_pos ⟨rfl, h⟩]) (by decide)
theorem head9_few {x : Nd} {c : CS} (k : x.kind = 9) (h : ¬ 32 ≤ c.set.length) : headC x c = c := head_ok (by unfold faultOf; rw [if_pos k, if_neg (fun e => h e.2)])
theorem head14_in {x : Nd} {c : CS} (k : x.kind = 14) (hct : c.set.contains x.text = true) : headC x c = c := head_ok (by unfold faultOf; rw [if_neg (by rw [k]; decide), if_pos k, if_pos hct])
theorem head14_no {x : Nd} {c : CS} (k : x.kind = 14) (hct : c.set.contains x.text = false) : headC x c = cflt c 2001 x.at' := head_of (by unfold faultOf; rw [if_neg (by rw [k]; decide), if_pos k, if_neg (by rw [hct]; exact Bool.false_ne_true)]) (by decide)
theorem head19_none {x : Nd} {c : CS} (k : x.kind = 19) (h : fnT x.text = none) : headC x c = cflt c 2001 x.at' := head_of (by unfold faultOf; rw [if_neg (by rw [k]; decide), if_neg (by rw [k]; decide), if_pos k, h]) (by decide)
theorem head19_ne {x : Nd} {c : CS} {m : Int} (k : x.kind = 19) (h : fnT x.text = some m) (hm : m ≠ x.kids.length) : headC x c = cflt c 2003 x.at' := head_of (by unfold faultOf; rw [if_neg (by rw [k]; decide), if_neg (by rw [k]; decide), if_pos k, h]; simp [hm]) (by decide)
theorem head19_eq {x : Nd} {c : CS} {m : Int} (k : x.kind = 19) (h : fnT x.text = some m) (hm : m = x.kids.length) : headC x c = c := head_ok (by unfold faultOf; rw [if_neg (by rw [k]; decide), if_neg (by rw [k]; decide), if_pos k, h]; simp [hm])
theorem head_no {x : Nd} {c : CS} (k9 : x.kind ≠ 9) (k14 : x.kind ≠ 14) (k19 : x.kind ≠ 19) : headC x c = c := head_ok (by unfold faultOf; rw [if_neg k9, if_neg k14, if_neg k19])
theorem nodeR_eq (x : Nd) (c : CS) : nodeR fnT x c = { kidsR fnT x.kids (headC x c) with set := after x.kind x.text (kidsR fnT x.kids (headC x c)).set } := by
 cases x; rw [nodeR]; rfl
theorem kids_snoc (fn : Nm → Option Int) : ∀ (l : List Nd) (i : Nat) (y : Nd) (c : CS), l[i]? = some y → kidsR fn (l.take (i + 1)) c = nodeR fn y (kidsR fn (l.take i) c)
 | [], i, y, c, h => by simp at h
 | x :: l, 0, y, c, h => by
  simp at h
  subst h
  simp only [List.take_succ_cons, List.take_zero, kidsR]
 | x :: l, i + 1, y, c, h => by
  simp only [List.take_succ_cons, kidsR]
  exact kids_snoc fn l i y _ (by simpa using h)
theorem cnt_take : ∀ (l : List Nd) (i : Nat) (y : Nd), l[i]? = some y → cntL (l.take i) + cnt9 y ≤ cntL l
 | [], i, y, h => by simp at h
 | x :: l, 0, y, h => by
  simp at h
  subst h
  simp only [List.take_zero, cntL]
  omega
 | x :: l, i + 1, y, h => by
  simp only [List.take_succ_cons, cntL]
  have := cnt_take l i y (by simpa using h)
  omega
theorem CkR.app {W : World} {B q h : Nat} {v : Value} {c : CS} {t : Nm} (hc : CkR W B q v c) (hh : W.heap[h]? = some (.cells #[sv t] 9 (0, 0))) (hn : c.set.length ≤ 1000000) :
  ∃ g cap W2, (Builtin.append_ #[50, 50] 50 #[v, .slice (some ⟨h, 0, none⟩) 1 1]).run Tryz.prog W = .ok (.slice (some ⟨g, 0, none⟩) (c.set.length + 1) cap) W2 ∧ W2.heap[q]? = some (.cells #[v, .int .i64 c.code, .int .i64 c.bad] 52 (0, 0)) ∧
   CkR (W2.setCell ⟨q, 0, none⟩ (.slice (some ⟨g, 0, none⟩) (c.set.length + 1) cap)) B q (.slice (some ⟨g, 0, none⟩) (c.set.length + 1) cap) ⟨c.set ++ [t], c.code, c.bad⟩ ∧ Chg q v W (W2.setCell ⟨q, 0, none⟩ (.slice (some ⟨g, 0, none⟩) (c.set.length + 1) cap)) (.slice (some ⟨g, 0, none⟩) (c.set.length + 1) cap) := by
 have hnews : ∀ j u, [sv t][j]? = some u → W.cell? ((⟨h, 0, none⟩ : Addr).add j) = some u := fun k u hu => by rw [path.add0, blk_cell hh]; simpa using hu
 obtain ⟨g, cap, W2, hr, ho, hg, hgg⟩ := path.append_s W B v c.set.length _ hc.row ⟨h, 0, none⟩ 1 1 [sv t] rfl hnews (by simp [Value.oneCell']) (by decide) (by omega) hc.hw
 have hql := blk_lt hc.blk
 have hgq : g ≠ q := by
  intro e
  rcases hgg with e2 | e2
  ·exact hc.ne (by rw [e2, e])
  ·omega
 have ht : Turned v.ownBlock.toList W W2 := ⟨hg.os, hg.tape, hg.output, hg.size, fun b hb hn => hg.block b hb (fun e => hn (by simp [← e]))⟩
 have hb2 : W2.heap[q]? = some (.cells #[v, .int .i64 c.code, .int .i64 c.bad] 52 (0, 0)) := ht.kept hc.blk (fun hm => hc.ne (by simpa using hm))
 have hrow : SRow W2 B (.slice (some ⟨g, 0, none⟩) (c.set.length + 1) cap) (c.set ++ [t]) := by unfold SRow; rw [List.length_append, List.map_append]; exact ho
 refine ⟨g, cap, W2, hr, hb2, ⟨blk_set hb2 0 _, hrow.turned (S := [q]) ((Turned.refl _ _).setCell (by simp) _) (fun b hb hm => ?_), hc.hq, Nat.le_trans hc.hw (by simp; exact ht.size), fun e => hgq (by simpa [Value.ownBlock] using e)⟩, ⟨((ht.mono (fun b hb => List.mem_cons_of_mem _ hb)).setCell (by simp) _), ?_⟩⟩
 ·have e1 : b = g := by simpa [Value.ownBlock] using hb.symm
  have e2 : b = q := by simpa using hm
  exact hgq (e1.symm.trans e2)
 ·rcases hgg with e | e
  ·exact .inl (by rw [e]; rfl)
  ·exact .inr (fun b hb => by
    have : b = g := by simpa [Value.ownBlock] using hb
    omega)
set_option maxHeartbeats 8000000 in
theorem node_step {d : Nat} (IH : NodeAt d) : NodeAt (d + 1) := by
 intro x a n S B q v c w hk hS hc hlen
 obtain ⟨aS, nS, rfl⟩ := hc.slice
 have HK := Lib.hid hk
 have HS := Lib.hid hS
 have HC := Lib.hid hc
 have hcl : c.set.length ≤ 1000000 := by omega
 have HLEN := Lib.hid hlen
 have hqs := blk_lt hc.blk
 have hvs := row_base hc.row
 have HI : Hid (NI B q w.heap.size x (.slice a x.kids.length n) w (.slice aS c.set.length nS) c (w.alloc (ndO x (.slice a x.kids.length n))) (.slice aS c.set.length nS)) :=
  ⟨hc.below ((Below.refl _ _).alloc (Nat.le_refl _) _), blk_new _ _, Chg.ext ((Below.refl _ _).alloc (Nat.le_refl _) _), by omega, fun e => by have := (hvs w.heap.size (by rw [e]; simp)).2; omega⟩
 have HKW : Hid (∀ (wr : World) (c' : CS) (v' : Value), NI B q w.heap.size x (.slice a x.kids.length n) w (.slice aS c.set.length nS) c' wr v' → KV 25 wr (d + 1) x.kids (.slice a x.kids.length n) S) := fun wr c' v' h => hk.turned h.chg.t (fun b hb hm => by
  have := hS b hb
  have hq := hc.hq
  rcases List.mem_cons.1 hm with e | hm
  ·omega
  ·have := (hvs b hm).1; omega)
 have HLN : Hid (∀ (i : Nat) (y : Nd), x.kids[i]? = some y → (kidsR fnT (x.kids.take i) (headC x c)).set.length + cnt9 y ≤ 1000000) := fun i y hy => by
  have h1 := chk.kidsR_len fnT (x.kids.take i) (headC x c)
  rw [head_set] at h1
  have h2 := cnt_take x.kids i y hy
  have h3 := par.cnt_kids x
  omega
 have HKL : Hid ((kidsR fnT x.kids (headC x c)).set.length ≤ 1000000) := by
  have h1 := chk.kidsR_len fnT x.kids (headC x c)
  rw [head_set] at h1
  have h3 := par.cnt_kids x
  show _ ≤ _
  omega
 clear hk hS hc hlen hvs
 go_enter Tryz.func25, Tryz.ntmps25
 go_upto_region 2 with fail
 change Code.wp _ _ _ _ (w.alloc (ndO x (.slice a x.kids.length n)))
 generalize w.alloc (ndO x (.slice a x.kids.length n)) = w1 at *
 generalize w.heap.size = b1 at *
 have p0 := blk_cell (HI.out.box) 0
 have p1 := blk_cell (HI.out.box) 1
 have p2 := blk_cell (HI.out.box) 2
 have p3 := blk_cell (HI.out.box) 3
 have p4 := blk_cell (HI.out.box) 4
 have pf0 := blk_free (HI.out.box) 0
 have pf1 := blk_free (HI.out.box) 1
 have pf2 := blk_free (HI.out.box) 2
 have pf3 := blk_free (HI.out.box) 3
 have pf4 := blk_free (HI.out.box) 4
 have pl := blk_lt (HI.out.box)
 simp only [List.getElem?_toArray, List.getElem?_cons_zero, List.getElem?_cons_succ] at p0 p1 p2 p3 p4
 by_cases k9 : x.kind = 9
 ·have e1 : (x.kind == 9) = true := by simp [k9]
  go_wp2_with fail
  refine (known_any B q _ c x.text w1 HI.out.ck hcl).mono ?_; rintro e w' ⟨rfl, rfl⟩
  have k0 := blk_cell (HI.out.ck.blk) 0
  have k1 := blk_cell (HI.out.ck.blk) 1
  have k2 := blk_cell (HI.out.ck.blk) 2
  have kf0 := blk_free (HI.out.ck.blk) 0
  have kf1 := blk_free (HI.out.ck.blk) 1
  have kf2 := blk_free (HI.out.ck.blk) 2
  have kl := blk_lt (HI.out.ck.blk)
  simp only [List.getElem?_toArray, List.getElem?_cons_zero, List.getElem?_cons_succ] at k0 k1 k2
  cases hct : c.set.contains x.text with
  | true =>
   have HN : Hid (NI B q b1 x (.slice a x.kids.length n) w (.slice aS c.set.length nS) (headC x c) w1 (.slice aS c.set.length nS)) := by rw [head9_in k9 hct]; exact HI.out
   clear hct
   clear p0 p1 p2 p3 p4 pf0 pf1 pf2 pf3 pf4 pl
   go_wp2_with fail
   go_loopg [6] x.kids.length (fun kk v6 wr => ∃ (i : Nat) (v2 : Value), i + kk = x.kids.length ∧ v6 = .int .i64 i ∧ Hid (NI B q b1 x (.slice a x.kids.length n) w (.slice aS c.set.length nS) (kidsR fnT (x.kids.take i) (headC x c)) wr v2))
   case atStart => exact ⟨0, _, by omega, rfl, HN.out⟩
   case round =>
    clear HN HI
    obtain ⟨i, v2, hik, rfl, HJ⟩ := hrel
    have p0 := blk_cell (HJ.out.box) 0
    have p1 := blk_cell (HJ.out.box) 1
    have p2 := blk_cell (HJ.out.box) 2
    have p3 := blk_cell (HJ.out.box) 3
    have p4 := blk_cell (HJ.out.box) 4
    have pf0 := blk_free (HJ.out.box) 0
    have pf1 := blk_free (HJ.out.box) 1
    have pf2 := blk_free (HJ.out.box) 2
    have pf3 := blk_free (HJ.out.box) 3
    have pf4 := blk_free (HJ.out.box) 4
    have pl := blk_lt (HJ.out.box)
    simp only [List.getElem?_toArray, List.getElem?_cons_zero, List.getElem?_cons_succ] at p0 p1 p2 p3 p4
    by_cases hlt : i < x.kids.length
    ·cases gk with
     | zero => omega
     | succ gk =>
     have hy : x.kids[i]? = some x.kids[i] := List.getElem?_eq_getElem hlt
     generalize x.kids[i] = y at hy
     obtain ⟨g1, c1, s1, rfl, -, hg1, hcp1, hcp2, y0, y1, y2, y3, y4, hky, hsub⟩ := (HKW.out _ _ _ HJ.out).kid hy
     unfold maxLen at hcp2
     obtain ⟨a2, n2, rfl⟩ := hky.slice
     have HIH := Lib.hid (IH y a2 n2 s1 B q v2 _ wr hky (fun b hb => HS.out b (hsub b hb)) HJ.out.ck (HLN.out i y hy))
     have HY : Hid (kidsR fnT (x.kids.take (i + 1)) (headC x c) = nodeR fnT y (kidsR fnT (x.kids.take i) (headC x c))) := kids_snoc fnT x.kids i y (headC x c) hy
     clear hky hsub hy
     go_wp2_with fail
     refine HIH.out.mono ?_; rintro e w5 ⟨rfl, v5, hck, hcg⟩
     have HJ2 := Lib.hid (HJ.out.step hck hcg)
     clear hck hcg HIH HJ
     go_wp2_with fail
     go_roundg gk
     case rel => exact ⟨i + 1, v5, by omega, by go_num, by rw [HY.out]; exact HJ2.out⟩
     case measure => omega
    ·have hik2 : i = x.kids.length := by omega
     subst hik2
     rw [List.take_length] at HJ
     have HRES := Lib.hid (nodeR_eq x c)
     have hkl := HKL.out
     generalize kidsR fnT x.kids (headC x c) = cF at *
     obtain ⟨aF, nF, rfl⟩ := HJ.out.ck.slice
     go_wp2_with fail
     refine (known_any B q _ cF x.text wr HJ.out.ck hkl).mono ?_; rintro e w' ⟨rfl, rfl⟩
     cases hct : cF.set.contains x.text with
     | true =>
      have hr : nodeR fnT x c = cF := by
       rw [HRES.out]
       unfold after
       rw [if_neg (fun h => by rw [hct] at h; exact Bool.noConfusion h.2)]
      have HR := Lib.hid hr
      clear hct hr
      go_wp2_with fail
      go_end0
      exact ⟨rfl, _, by rw [HR.out]; exact HJ.out.ck, HJ.out.chg⟩
     | false =>
      have hr : nodeR fnT x c = ⟨cF.set ++ [x.text], cF.code, cF.bad⟩ := by
       rw [HRES.out]
       unfold after
       rw [if_pos ⟨k9, hct⟩]
      have HR := Lib.hid hr
      clear hct hr
      have k0 := blk_cell (HJ.out.ck.blk) 0
      have k1 := blk_cell (HJ.out.ck.blk) 1
      have k2 := blk_cell (HJ.out.ck.blk) 2
      have kf0 := blk_free (HJ.out.ck.blk) 0
      have kf1 := blk_free (HJ.out.ck.blk) 1
      have kf2 := blk_free (HJ.out.ck.blk) 2
      have kl := blk_lt (HJ.out.ck.blk)
      simp only [List.getElem?_toArray, List.getElem?_cons_zero, List.getElem?_cons_succ] at k0 k1 k2
      go_wp2_with fail
      obtain ⟨g2, cap2, W4, hrun, hb2, hck, hcg⟩ := (HJ.out.ck.below (((Below.refl wr.heap.size wr).drew).alloc (Nat.le_refl _) (.cells #[sv x.text] 9 (0, 0)))).app (t := x.text) (blk_new wr.drew (.cells #[sv x.text] 9 (0, 0))) hkl
      have HRUN := Lib.hid hrun
      have HCK := Lib.hid hck
      have HCG : Hid (Chg q (.slice aS c.set.length nS) w _ _) := HJ.out.chg.trans ((Chg.ext (((Below.refl wr.heap.size wr).drew).alloc (Nat.le_refl _) (.cells #[sv x.text] 9 (0, 0)))).trans hcg)
      have m0 := blk_cell (hb2) 0
      have m1 := blk_cell (hb2) 1
      have m2 := blk_cell (hb2) 2
      have mf0 := blk_free (hb2) 0
      have mf1 := blk_free (hb2) 1
      have mf2 := blk_free (hb2) 2
      have ml := blk_lt (hb2)
      simp only [List.getElem?_toArray, List.getElem?_cons_zero, List.getElem?_cons_succ] at m0 m1 m2
      clear hrun hck hcg hb2
      go_region_law
       (first
        | (refine Code.step_append_run (by rfl) (by rfl) (by rfl) (by rfl) (by rfl) HRUN.out ?_)
        | (refine par.step_append_run (by rfl) (by rfl) (by rfl) (by rfl) (by rfl) HRUN.out ?_))
      all_goals
       go_wp2_with fail
       go_end0
       exact ⟨rfl, _, by rw [HR.out]; exact HCK.out, HCG.out⟩
  | false =>
   by_cases h32 : 32 ≤ c.set.length
   ·have HHC := Lib.hid (head9_many k9 hct h32)
    clear hct
    go_wp2_with fail
    refine (fault_any B q _ c 2004 x.at' w1 HI.out.ck).mono ?_; rintro e w2 ⟨rfl, hck, hcg⟩
    have HN : Hid (NI B q b1 x (.slice a x.kids.length n) w (.slice aS c.set.length nS) (headC x c) w2 (.slice aS c.set.length nS)) := by rw [HHC.out]; exact HI.out.step hck hcg
    clear hck hcg
    clear p0 p1 p2 p3 p4 pf0 pf1 pf2 pf3 pf4 pl
    have p0 := blk_cell (HN.out.box) 0
    have p1 := blk_cell (HN.out.box) 1
    have p2 := blk_cell (HN.out.box) 2
    have p3 := blk_cell (HN.out.box) 3
    have p4 := blk_cell (HN.out.box) 4
    have pf0 := blk_free (HN.out.box) 0
    have pf1 := blk_free (HN.out.box) 1
    have pf2 := blk_free (HN.out.box) 2
    have pf3 := blk_free (HN.out.box) 3
    have pf4 := blk_free (HN.out.box) 4
    have pl := blk_lt (HN.out.box)
    simp only [List.getElem?_toArray, List.getElem?_cons_zero, List.getElem?_cons_succ] at p0 p1 p2 p3 p4
    clear p0 p1 p2 p3 p4 pf0 pf1 pf2 pf3 pf4 pl
    go_wp2_with fail
    go_loopg [6] x.kids.length (fun kk v6 wr => ∃ (i : Nat) (v2 : Value), i + kk = x.kids.length ∧ v6 = .int .i64 i ∧ Hid (NI B q b1 x (.slice a x.kids.length n) w (.slice aS c.set.length nS) (kidsR fnT (x.kids.take i) (headC x c)) wr v2))
    case atStart => exact ⟨0, _, by omega, rfl, HN.out⟩
    case round =>
     clear HN HI
     obtain ⟨i, v2, hik, rfl, HJ⟩ := hrel
     have p0 := blk_cell (HJ.out.box) 0
     have p1 := blk_cell (HJ.out.box) 1
     have p2 := blk_cell (HJ.out.box) 2
     have p3 := blk_cell (HJ.out.box) 3
     have p4 := blk_cell (HJ.out.box) 4
     have pf0 := blk_free (HJ.out.box) 0
     have pf1 := blk_free (HJ.out.box) 1
     have pf2 := blk_free (HJ.out.box) 2
     have pf3 := blk_free (HJ.out.box) 3
     have pf4 := blk_free (HJ.out.box) 4
     have pl := blk_lt (HJ.out.box)
     simp only [List.getElem?_toArray, List.getElem?_cons_zero, List.getElem?_cons_succ] at p0 p1 p2 p3 p4
     by_cases hlt : i < x.kids.length
     ·cases gk with
      | zero => omega
      | succ gk =>
      have hy : x.kids[i]? = some x.kids[i] := List.getElem?_eq_getElem hlt
      generalize x.kids[i] = y at hy
      obtain ⟨g1, c1, s1, rfl, -, hg1, hcp1, hcp2, y0, y1, y2, y3, y4, hky, hsub⟩ := (HKW.out _ _ _ HJ.out).kid hy
      unfold maxLen at hcp2
      obtain ⟨a2, n2, rfl⟩ := hky.slice
      have HIH := Lib.hid (IH y a2 n2 s1 B q v2 _ wr hky (fun b hb => HS.out b (hsub b hb)) HJ.out.ck (HLN.out i y hy))
      have HY : Hid (kidsR fnT (x.kids.take (i + 1)) (headC x c) = nodeR fnT y (kidsR fnT (x.kids.take i) (headC x c))) := kids_snoc fnT x.kids i y (headC x c) hy
      clear hky hsub hy
      go_wp2_with fail
      refine HIH.out.mono ?_; rintro e w5 ⟨rfl, v5, hck, hcg⟩
      have HJ2 := Lib.hid (HJ.out.step hck hcg)
      clear hck hcg HIH HJ
      go_wp2_with fail
      go_roundg gk
      case rel => exact ⟨i + 1, v5, by omega, by go_num, by rw [HY.out]; exact HJ2.out⟩
      case measure => omega
     ·have hik2 : i = x.kids.length := by omega
      subst hik2
      rw [List.take_length] at HJ
      have HRES := Lib.hid (nodeR_eq x c)
      have hkl := HKL.out
      generalize kidsR fnT x.kids (headC x c) = cF at *
      obtain ⟨aF, nF, rfl⟩ := HJ.out.ck.slice
      go_wp2_with fail
      refine (known_any B q _ cF x.text wr HJ.out.ck hkl).mono ?_; rintro e w' ⟨rfl, rfl⟩
      cases hct : cF.set.contains x.text with
      | true =>
       have hr : nodeR fnT x c = cF := by
        rw [HRES.out]
        unfold after
        rw [if_neg (fun h => by rw [hct] at h; exact Bool.noConfusion h.2)]
       have HR := Lib.hid hr
       clear hct hr
       go_wp2_with fail
       go_end0
       exact ⟨rfl, _, by rw [HR.out]; exact HJ.out.ck, HJ.out.chg⟩
      | false =>
       have hr : nodeR fnT x c = ⟨cF.set ++ [x.text], cF.code, cF.bad⟩ := by
        rw [HRES.out]
        unfold after
        rw [if_pos ⟨k9, hct⟩]
       have HR := Lib.hid hr
       clear hct hr
       have k0 := blk_cell (HJ.out.ck.blk) 0
       have k1 := blk_cell (HJ.out.ck.blk) 1
       have k2 := blk_cell (HJ.out.ck.blk) 2
       have kf0 := blk_free (HJ.out.ck.blk) 0
       have kf1 := blk_free (HJ.out.ck.blk) 1
       have kf2 := blk_free (HJ.out.ck.blk) 2
       have kl := blk_lt (HJ.out.ck.blk)
       simp only [List.getElem?_toArray, List.getElem?_cons_zero, List.getElem?_cons_succ] at k0 k1 k2
       go_wp2_with fail
       obtain ⟨g2, cap2, W4, hrun, hb2, hck, hcg⟩ := (HJ.out.ck.below (((Below.refl wr.heap.size wr).drew).alloc (Nat.le_refl _) (.cells #[sv x.text] 9 (0, 0)))).app (t := x.text) (blk_new wr.drew (.cells #[sv x.text] 9 (0, 0))) hkl
       have HRUN := Lib.hid hrun
       have HCK := Lib.hid hck
       have HCG : Hid (Chg q (.slice aS c.set.length nS) w _ _) := HJ.out.chg.trans ((Chg.ext (((Below.refl wr.heap.size wr).drew).alloc (Nat.le_refl _) (.cells #[sv x.text] 9 (0, 0)))).trans hcg)
       have m0 := blk_cell (hb2) 0
       have m1 := blk_cell (hb2) 1
       have m2 := blk_cell (hb2) 2
       have mf0 := blk_free (hb2) 0
       have mf1 := blk_free (hb2) 1
       have mf2 := blk_free (hb2) 2
       have ml := blk_lt (hb2)
       simp only [List.getElem?_toArray, List.getElem?_cons_zero, List.getElem?_cons_succ] at m0 m1 m2
       clear hrun hck hcg hb2
       go_region_law
        (first
         | (refine Code.step_append_run (by rfl) (by rfl) (by rfl) (by rfl) (by rfl) HRUN.out ?_)
         | (refine par.step_append_run (by rfl) (by rfl) (by rfl) (by rfl) (by rfl) HRUN.out ?_))
       all_goals
        go_wp2_with fail
        go_end0
        exact ⟨rfl, _, by rw [HR.out]; exact HCK.out, HCG.out⟩
   ·have HHC := Lib.hid (head9_few k9 h32)
    clear hct
    have HN : Hid (NI B q b1 x (.slice a x.kids.length n) w (.slice aS c.set.length nS) (headC x c) w1 (.slice aS c.set.length nS)) := by rw [HHC.out]; exact HI.out
    clear p0 p1 p2 p3 p4 pf0 pf1 pf2 pf3 pf4 pl
    go_wp2_with fail
    go_loopg [6] x.kids.length (fun kk v6 wr => ∃ (i : Nat) (v2 : Value), i + kk = x.kids.length ∧ v6 = .int .i64 i ∧ Hid (NI B q b1 x (.slice a x.kids.length n) w (.slice aS c.set.length nS) (kidsR fnT (x.kids.take i) (headC x c)) wr v2))
    case atStart => exact ⟨0, _, by omega, rfl, HN.out⟩
    case round =>
     clear HN HI
     obtain ⟨i, v2, hik, rfl, HJ⟩ := hrel
     have p0 := blk_cell (HJ.out.box) 0
     have p1 := blk_cell (HJ.out.box) 1
     have p2 := blk_cell (HJ.out.box) 2
     have p3 := blk_cell (HJ.out.box) 3
     have p4 := blk_cell (HJ.out.box) 4
     have pf0 := blk_free (HJ.out.box) 0
     have pf1 := blk_free (HJ.out.box) 1
     have pf2 := blk_free (HJ.out.box) 2
     have pf3 := blk_free (HJ.out.box) 3
     have pf4 := blk_free (HJ.out.box) 4
     have pl := blk_lt (HJ.out.box)
     simp only [List.getElem?_toArray, List.getElem?_cons_zero, List.getElem?_cons_succ] at p0 p1 p2 p3 p4
     by_cases hlt : i < x.kids.length
     ·cases gk with
      | zero => omega
      | succ gk =>
      have hy : x.kids[i]? = some x.kids[i] := List.getElem?_eq_getElem hlt
      generalize x.kids[i] = y at hy
      obtain ⟨g1, c1, s1, rfl, -, hg1, hcp1, hcp2, y0, y1, y2, y3, y4, hky, hsub⟩ := (HKW.out _ _ _ HJ.out).kid hy
      unfold maxLen at hcp2
      obtain ⟨a2, n2, rfl⟩ := hky.slice
      have HIH := Lib.hid (IH y a2 n2 s1 B q v2 _ wr hky (fun b hb => HS.out b (hsub b hb)) HJ.out.ck (HLN.out i y hy))
      have HY : Hid (kidsR fnT (x.kids.take (i + 1)) (headC x c) = nodeR fnT y (kidsR fnT (x.kids.take i) (headC x c))) := kids_snoc fnT x.kids i y (headC x c) hy
      clear hky hsub hy
      go_wp2_with fail
      refine HIH.out.mono ?_; rintro e w5 ⟨rfl, v5, hck, hcg⟩
      have HJ2 := Lib.hid (HJ.out.step hck hcg)
      clear hck hcg HIH HJ
      go_wp2_with fail
      go_roundg gk
      case rel => exact ⟨i + 1, v5, by omega, by go_num, by rw [HY.out]; exact HJ2.out⟩
      case measure => omega
     ·have hik2 : i = x.kids.length := by omega
      subst hik2
      rw [List.take_length] at HJ
      have HRES := Lib.hid (nodeR_eq x c)
      have hkl := HKL.out
      generalize kidsR fnT x.kids (headC x c) = cF at *
      obtain ⟨aF, nF, rfl⟩ := HJ.out.ck.slice
      go_wp2_with fail
      refine (known_any B q _ cF x.text wr HJ.out.ck hkl).mono ?_; rintro e w' ⟨rfl, rfl⟩
      cases hct : cF.set.contains x.text with
      | true =>
       have hr : nodeR fnT x c = cF := by
        rw [HRES.out]
        unfold after
        rw [if_neg (fun h => by rw [hct] at h; exact Bool.noConfusion h.2)]
       have HR := Lib.hid hr
       clear hct hr
       go_wp2_with fail
       go_end0
       exact ⟨rfl, _, by rw [HR.out]; exact HJ.out.ck, HJ.out.chg⟩
      | false =>
       have hr : nodeR fnT x c = ⟨cF.set ++ [x.text], cF.code, cF.bad⟩ := by
        rw [HRES.out]
        unfold after
        rw [if_pos ⟨k9, hct⟩]
       have HR := Lib.hid hr
       clear hct hr
       have k0 := blk_cell (HJ.out.ck.blk) 0
       have k1 := blk_cell (HJ.out.ck.blk) 1
       have k2 := blk_cell (HJ.out.ck.blk) 2
       have kf0 := blk_free (HJ.out.ck.blk) 0
       have kf1 := blk_free (HJ.out.ck.blk) 1
       have kf2 := blk_free (HJ.out.ck.blk) 2
       have kl := blk_lt (HJ.out.ck.blk)
       simp only [List.getElem?_toArray, List.getElem?_cons_zero, List.getElem?_cons_succ] at k0 k1 k2
       go_wp2_with fail
       obtain ⟨g2, cap2, W4, hrun, hb2, hck, hcg⟩ := (HJ.out.ck.below (((Below.refl wr.heap.size wr).drew).alloc (Nat.le_refl _) (.cells #[sv x.text] 9 (0, 0)))).app (t := x.text) (blk_new wr.drew (.cells #[sv x.text] 9 (0, 0))) hkl
       have HRUN := Lib.hid hrun
       have HCK := Lib.hid hck
       have HCG : Hid (Chg q (.slice aS c.set.length nS) w _ _) := HJ.out.chg.trans ((Chg.ext (((Below.refl wr.heap.size wr).drew).alloc (Nat.le_refl _) (.cells #[sv x.text] 9 (0, 0)))).trans hcg)
       have m0 := blk_cell (hb2) 0
       have m1 := blk_cell (hb2) 1
       have m2 := blk_cell (hb2) 2
       have mf0 := blk_free (hb2) 0
       have mf1 := blk_free (hb2) 1
       have mf2 := blk_free (hb2) 2
       have ml := blk_lt (hb2)
       simp only [List.getElem?_toArray, List.getElem?_cons_zero, List.getElem?_cons_succ] at m0 m1 m2
       clear hrun hck hcg hb2
       go_region_law
        (first
         | (refine Code.step_append_run (by rfl) (by rfl) (by rfl) (by rfl) (by rfl) HRUN.out ?_)
         | (refine par.step_append_run (by rfl) (by rfl) (by rfl) (by rfl) (by rfl) HRUN.out ?_))
       all_goals
        go_wp2_with fail
        go_end0
        exact ⟨rfl, _, by rw [HR.out]; exact HCK.out, HCG.out⟩
 ·have e1 : (x.kind == 9) = false := beq_eq_false_iff_ne.2 k9
  by_cases k14 : x.kind = 14
  ·have e2 : (x.kind == 14) = true := by simp [k14]
   go_wp2_with fail
   refine (known_any B q _ c x.text w1 HI.out.ck hcl).mono ?_; rintro e w' ⟨rfl, rfl⟩
   cases hct : c.set.contains x.text with
   | true =>
    have HHC := Lib.hid (head14_in k14 hct)
    clear hct
    have HN : Hid (NI B q b1 x (.slice a x.kids.length n) w (.slice aS c.set.length nS) (headC x c) w1 (.slice aS c.set.length nS)) := by rw [HHC.out]; exact HI.out
    clear p0 p1 p2 p3 p4 pf0 pf1 pf2 pf3 pf4 pl
    go_wp2_with fail
    go_loopg [6] x.kids.length (fun kk v6 wr => ∃ (i : Nat) (v2 : Value), i + kk = x.kids.length ∧ v6 = .int .i64 i ∧ Hid (NI B q b1 x (.slice a x.kids.length n) w (.slice aS c.set.length nS) (kidsR fnT (x.kids.take i) (headC x c)) wr v2))
    case atStart => exact ⟨0, _, by omega, rfl, HN.out⟩
    case round =>
     clear HN HI
     obtain ⟨i, v2, hik, rfl, HJ⟩ := hrel
     have p0 := blk_cell (HJ.out.box) 0
     have p1 := blk_cell (HJ.out.box) 1
     have p2 := blk_cell (HJ.out.box) 2
     have p3 := blk_cell (HJ.out.box) 3
     have p4 := blk_cell (HJ.out.box) 4
     have pf0 := blk_free (HJ.out.box) 0
     have pf1 := blk_free (HJ.out.box) 1
     have pf2 := blk_free (HJ.out.box) 2
     have pf3 := blk_free (HJ.out.box) 3
     have pf4 := blk_free (HJ.out.box) 4
     have pl := blk_lt (HJ.out.box)
     simp only [List.getElem?_toArray, List.getElem?_cons_zero, List.getElem?_cons_succ] at p0 p1 p2 p3 p4
     by_cases hlt : i < x.kids.length
     ·cases gk with
      | zero => omega
      | succ gk =>
      have hy : x.kids[i]? = some x.kids[i] := List.getElem?_eq_getElem hlt
      generalize x.kids[i] = y at hy
      obtain ⟨g1, c1, s1, rfl, -, hg1, hcp1, hcp2, y0, y1, y2, y3, y4, hky, hsub⟩ := (HKW.out _ _ _ HJ.out).kid hy
      unfold maxLen at hcp2
      obtain ⟨a2, n2, rfl⟩ := hky.slice
      have HIH := Lib.hid (IH y a2 n2 s1 B q v2 _ wr hky (fun b hb => HS.out b (hsub b hb)) HJ.out.ck (HLN.out i y hy))
      have HY : Hid (kidsR fnT (x.kids.take (i + 1)) (headC x c) = nodeR fnT y (kidsR fnT (x.kids.take i) (headC x c))) := kids_snoc fnT x.kids i y (headC x c) hy
      clear hky hsub hy
      go_wp2_with fail
      refine HIH.out.mono ?_; rintro e w5 ⟨rfl, v5, hck, hcg⟩
      have HJ2 := Lib.hid (HJ.out.step hck hcg)
      clear hck hcg HIH HJ
      go_wp2_with fail
      go_roundg gk
      case rel => exact ⟨i + 1, v5, by omega, by go_num, by rw [HY.out]; exact HJ2.out⟩
      case measure => omega
     ·have hik2 : i = x.kids.length := by omega
      subst hik2
      rw [List.take_length] at HJ
      have HRES := Lib.hid (nodeR_eq x c)
      have hkl := HKL.out
      generalize kidsR fnT x.kids (headC x c) = cF at *
      have hr : nodeR fnT x c = cF := by
       rw [HRES.out]
       unfold after
       rw [if_neg (fun h => k9 h.1)]
      have HR := Lib.hid hr
      clear hr
      go_wp2_with fail
      go_end0
      exact ⟨rfl, _, by rw [HR.out]; exact HJ.out.ck, HJ.out.chg⟩
   | false =>
    have HHC := Lib.hid (head14_no k14 hct)
    clear hct
    go_wp2_with fail
    refine (fault_any B q _ c 2001 x.at' w1 HI.out.ck).mono ?_; rintro e w3 ⟨rfl, hck, hcg⟩
    have HN : Hid (NI B q b1 x (.slice a x.kids.length n) w (.slice aS c.set.length nS) (headC x c) w3 (.slice aS c.set.length nS)) := by rw [HHC.out]; exact HI.out.step hck hcg
    clear hck hcg
    clear p0 p1 p2 p3 p4 pf0 pf1 pf2 pf3 pf4 pl
    have p0 := blk_cell (HN.out.box) 0
    have p1 := blk_cell (HN.out.box) 1
    have p2 := blk_cell (HN.out.box) 2
    have p3 := blk_cell (HN.out.box) 3
    have p4 := blk_cell (HN.out.box) 4
    have pf0 := blk_free (HN.out.box) 0
    have pf1 := blk_free (HN.out.box) 1
    have pf2 := blk_free (HN.out.box) 2
    have pf3 := blk_free (HN.out.box) 3
    have pf4 := blk_free (HN.out.box) 4
    have pl := blk_lt (HN.out.box)
    simp only [List.getElem?_toArray, List.getElem?_cons_zero, List.getElem?_cons_succ] at p0 p1 p2 p3 p4
    clear p0 p1 p2 p3 p4 pf0 pf1 pf2 pf3 pf4 pl
    go_wp2_with fail
    go_loopg [6] x.kids.length (fun kk v6 wr => ∃ (i : Nat) (v2 : Value), i + kk = x.kids.length ∧ v6 = .int .i64 i ∧ Hid (NI B q b1 x (.slice a x.kids.length n) w (.slice aS c.set.length nS) (kidsR fnT (x.kids.take i) (headC x c)) wr v2))
    case atStart => exact ⟨0, _, by omega, rfl, HN.out⟩
    case round =>
     clear HN HI
     obtain ⟨i, v2, hik, rfl, HJ⟩ := hrel
     have p0 := blk_cell (HJ.out.box) 0
     have p1 := blk_cell (HJ.out.box) 1
     have p2 := blk_cell (HJ.out.box) 2
     have p3 := blk_cell (HJ.out.box) 3
     have p4 := blk_cell (HJ.out.box) 4
     have pf0 := blk_free (HJ.out.box) 0
     have pf1 := blk_free (HJ.out.box) 1
     have pf2 := blk_free (HJ.out.box) 2
     have pf3 := blk_free (HJ.out.box) 3
     have pf4 := blk_free (HJ.out.box) 4
     have pl := blk_lt (HJ.out.box)
     simp only [List.getElem?_toArray, List.getElem?_cons_zero, List.getElem?_cons_succ] at p0 p1 p2 p3 p4
     by_cases hlt : i < x.kids.length
     ·cases gk with
      | zero => omega
      | succ gk =>
      have hy : x.kids[i]? = some x.kids[i] := List.getElem?_eq_getElem hlt
      generalize x.kids[i] = y at hy
      obtain ⟨g1, c1, s1, rfl, -, hg1, hcp1, hcp2, y0, y1, y2, y3, y4, hky, hsub⟩ := (HKW.out _ _ _ HJ.out).kid hy
      unfold maxLen at hcp2
      obtain ⟨a2, n2, rfl⟩ := hky.slice
      have HIH := Lib.hid (IH y a2 n2 s1 B q v2 _ wr hky (fun b hb => HS.out b (hsub b hb)) HJ.out.ck (HLN.out i y hy))
      have HY : Hid (kidsR fnT (x.kids.take (i + 1)) (headC x c) = nodeR fnT y (kidsR fnT (x.kids.take i) (headC x c))) := kids_snoc fnT x.kids i y (headC x c) hy
      clear hky hsub hy
      go_wp2_with fail
      refine HIH.out.mono ?_; rintro e w5 ⟨rfl, v5, hck, hcg⟩
      have HJ2 := Lib.hid (HJ.out.step hck hcg)
      clear hck hcg HIH HJ
      go_wp2_with fail
      go_roundg gk
      case rel => exact ⟨i + 1, v5, by omega, by go_num, by rw [HY.out]; exact HJ2.out⟩
      case measure => omega
     ·have hik2 : i = x.kids.length := by omega
      subst hik2
      rw [List.take_length] at HJ
      have HRES := Lib.hid (nodeR_eq x c)
      have hkl := HKL.out
      generalize kidsR fnT x.kids (headC x c) = cF at *
      have hr : nodeR fnT x c = cF := by
       rw [HRES.out]
       unfold after
       rw [if_neg (fun h => k9 h.1)]
      have HR := Lib.hid hr
      clear hr
      go_wp2_with fail
      go_end0
      exact ⟨rfl, _, by rw [HR.out]; exact HJ.out.ck, HJ.out.chg⟩
  ·have e2 : (x.kind == 14) = false := beq_eq_false_iff_ne.2 k14
   by_cases k19 : x.kind = 19
   ·have e3 : (x.kind == 19) = true := by simp [k19]
    go_wp2_with fail
    refine (Find_any x.text w1).mono ?_; rintro e w2 ⟨nm, m, kk, rfl, hm, hb⟩
    have HI2 := Lib.hid ((HI.out.below hb).below ((Below.refl _ _).alloc (Nat.le_refl _) (.cells #[.string ⟨nm.toArray⟩, .int .i64 m, .int .i64 kk] 77 (0, 0))))
    have hfc := blk_new w2 (.cells #[.string ⟨nm.toArray⟩, .int .i64 m, .int .i64 kk] 77 (0, 0))
    clear p0 p1 p2 p3 p4 pf0 pf1 pf2 pf3 pf4 pl
    have p0 := blk_cell (HI2.out.box) 0
    have p1 := blk_cell (HI2.out.box) 1
    have p2 := blk_cell (HI2.out.box) 2
    have p3 := blk_cell (HI2.out.box) 3
    have p4 := blk_cell (HI2.out.box) 4
    have pf0 := blk_free (HI2.out.box) 0
    have pf1 := blk_free (HI2.out.box) 1
    have pf2 := blk_free (HI2.out.box) 2
    have pf3 := blk_free (HI2.out.box) 3
    have pf4 := blk_free (HI2.out.box) 4
    have pl := blk_lt (HI2.out.box)
    simp only [List.getElem?_toArray, List.getElem?_cons_zero, List.getElem?_cons_succ] at p0 p1 p2 p3 p4
    have f0 := blk_cell (hfc) 0
    have f1 := blk_cell (hfc) 1
    have f2 := blk_cell (hfc) 2
    have ff0 := blk_free (hfc) 0
    have ff1 := blk_free (hfc) 1
    have ff2 := blk_free (hfc) 2
    have fl := blk_lt (hfc)
    simp only [List.getElem?_toArray, List.getElem?_cons_zero, List.getElem?_cons_succ] at f0 f1 f2
    clear hfc hb
    cases hf : fnT x.text with
    | none =>
     have HHC := Lib.hid (head19_none (c := c) k19 hf)
     clear hf hm
     go_wp2_with fail
     refine (fault_any B q _ c 2001 x.at' _ HI2.out.ck).mono ?_; rintro e w3 ⟨rfl, hck, hcg⟩
     have HN : Hid (NI B q b1 x (.slice a x.kids.length n) w (.slice aS c.set.length nS) (headC x c) w3 (.slice aS c.set.length nS)) := by rw [HHC.out]; exact HI2.out.step hck hcg
     clear hck hcg
     clear p0 p1 p2 p3 p4 pf0 pf1 pf2 pf3 pf4 pl
     have p0 := blk_cell (HN.out.box) 0
     have p1 := blk_cell (HN.out.box) 1
     have p2 := blk_cell (HN.out.box) 2
     have p3 := blk_cell (HN.out.box) 3
     have p4 := blk_cell (HN.out.box) 4
     have pf0 := blk_free (HN.out.box) 0
     have pf1 := blk_free (HN.out.box) 1
     have pf2 := blk_free (HN.out.box) 2
     have pf3 := blk_free (HN.out.box) 3
     have pf4 := blk_free (HN.out.box) 4
     have pl := blk_lt (HN.out.box)
     simp only [List.getElem?_toArray, List.getElem?_cons_zero, List.getElem?_cons_succ] at p0 p1 p2 p3 p4
     clear p0 p1 p2 p3 p4 pf0 pf1 pf2 pf3 pf4 pl
     go_wp2_with fail
     go_loopg [6] x.kids.length (fun kk v6 wr => ∃ (i : Nat) (v2 : Value), i + kk = x.kids.length ∧ v6 = .int .i64 i ∧ Hid (NI B q b1 x (.slice a x.kids.length n) w (.slice aS c.set.length nS) (kidsR fnT (x.kids.take i) (headC x c)) wr v2))
     case atStart => exact ⟨0, _, by omega, rfl, HN.out⟩
     case round =>
      clear HN HI
      obtain ⟨i, v2, hik, rfl, HJ⟩ := hrel
      have p0 := blk_cell (HJ.out.box) 0
      have p1 := blk_cell (HJ.out.box) 1
      have p2 := blk_cell (HJ.out.box) 2
      have p3 := blk_cell (HJ.out.box) 3
      have p4 := blk_cell (HJ.out.box) 4
      have pf0 := blk_free (HJ.out.box) 0
      have pf1 := blk_free (HJ.out.box) 1
      have pf2 := blk_free (HJ.out.box) 2
      have pf3 := blk_free (HJ.out.box) 3
      have pf4 := blk_free (HJ.out.box) 4
      have pl := blk_lt (HJ.out.box)
      simp only [List.getElem?_toArray, List.getElem?_cons_zero, List.getElem?_cons_succ] at p0 p1 p2 p3 p4
      by_cases hlt : i < x.kids.length
      ·cases gk with
       | zero => omega
       | succ gk =>
       have hy : x.kids[i]? = some x.kids[i] := List.getElem?_eq_getElem hlt
       generalize x.kids[i] = y at hy
       obtain ⟨g1, c1, s1, rfl, -, hg1, hcp1, hcp2, y0, y1, y2, y3, y4, hky, hsub⟩ := (HKW.out _ _ _ HJ.out).kid hy
       unfold maxLen at hcp2
       obtain ⟨a2, n2, rfl⟩ := hky.slice
       have HIH := Lib.hid (IH y a2 n2 s1 B q v2 _ wr hky (fun b hb => HS.out b (hsub b hb)) HJ.out.ck (HLN.out i y hy))
       have HY : Hid (kidsR fnT (x.kids.take (i + 1)) (headC x c) = nodeR fnT y (kidsR fnT (x.kids.take i) (headC x c))) := kids_snoc fnT x.kids i y (headC x c) hy
       clear hky hsub hy
       go_wp2_with fail
       refine HIH.out.mono ?_; rintro e w5 ⟨rfl, v5, hck, hcg⟩
       have HJ2 := Lib.hid (HJ.out.step hck hcg)
       clear hck hcg HIH HJ
       go_wp2_with fail
       go_roundg gk
       case rel => exact ⟨i + 1, v5, by omega, by go_num, by rw [HY.out]; exact HJ2.out⟩
       case measure => omega
      ·have hik2 : i = x.kids.length := by omega
       subst hik2
       rw [List.take_length] at HJ
       have HRES := Lib.hid (nodeR_eq x c)
       have hkl := HKL.out
       generalize kidsR fnT x.kids (headC x c) = cF at *
       have hr : nodeR fnT x c = cF := by
        rw [HRES.out]
        unfold after
        rw [if_neg (fun h => k9 h.1)]
       have HR := Lib.hid hr
       clear hr
       go_wp2_with fail
       go_end0
       exact ⟨rfl, _, by rw [HR.out]; exact HJ.out.ck, HJ.out.chg⟩
    | some m' =>
     have hmm := hm m' hf
     subst hmm
     by_cases hml : m = x.kids.length
     ·have HHC := Lib.hid (head19_eq (c := c) k19 hf hml)
      have hmb : (m != (x.kids.length : Int)) = false := by simp [hml]
      clear hf hm hml
      go_wp2_with fail
      have HN : Hid (NI B q b1 x (.slice a x.kids.length n) w (.slice aS c.set.length nS) (headC x c) (w2.alloc (.cells #[.string ⟨nm.toArray⟩, .int .i64 m, .int .i64 kk] 77 (0, 0))) (.slice aS c.set.length nS)) := by rw [HHC.out]; exact HI2.out
      clear p0 p1 p2 p3 p4 pf0 pf1 pf2 pf3 pf4 pl
      go_wp2_with fail
      go_loopg [6] x.kids.length (fun kk v6 wr => ∃ (i : Nat) (v2 : Value), i + kk = x.kids.length ∧ v6 = .int .i64 i ∧ Hid (NI B q b1 x (.slice a x.kids.length n) w (.slice aS c.set.length nS) (kidsR fnT (x.kids.take i) (headC x c)) wr v2))
      case atStart => exact ⟨0, _, by omega, rfl, HN.out⟩
      case round =>
       clear HN HI
       obtain ⟨i, v2, hik, rfl, HJ⟩ := hrel
       have p0 := blk_cell (HJ.out.box) 0
       have p1 := blk_cell (HJ.out.box) 1
       have p2 := blk_cell (HJ.out.box) 2
       have p3 := blk_cell (HJ.out.box) 3
       have p4 := blk_cell (HJ.out.box) 4
       have pf0 := blk_free (HJ.out.box) 0
       have pf1 := blk_free (HJ.out.box) 1
       have pf2 := blk_free (HJ.out.box) 2
       have pf3 := blk_free (HJ.out.box) 3
       have pf4 := blk_free (HJ.out.box) 4
       have pl := blk_lt (HJ.out.box)
       simp only [List.getElem?_toArray, List.getElem?_cons_zero, List.getElem?_cons_succ] at p0 p1 p2 p3 p4
       by_cases hlt : i < x.kids.length
       ·cases gk with
        | zero => omega
        | succ gk =>
        have hy : x.kids[i]? = some x.kids[i] := List.getElem?_eq_getElem hlt
        generalize x.kids[i] = y at hy
        obtain ⟨g1, c1, s1, rfl, -, hg1, hcp1, hcp2, y0, y1, y2, y3, y4, hky, hsub⟩ := (HKW.out _ _ _ HJ.out).kid hy
        unfold maxLen at hcp2
        obtain ⟨a2, n2, rfl⟩ := hky.slice
        have HIH := Lib.hid (IH y a2 n2 s1 B q v2 _ wr hky (fun b hb => HS.out b (hsub b hb)) HJ.out.ck (HLN.out i y hy))
        have HY : Hid (kidsR fnT (x.kids.take (i + 1)) (headC x c) = nodeR fnT y (kidsR fnT (x.kids.take i) (headC x c))) := kids_snoc fnT x.kids i y (headC x c) hy
        clear hky hsub hy
        go_wp2_with fail
        refine HIH.out.mono ?_; rintro e w5 ⟨rfl, v5, hck, hcg⟩
        have HJ2 := Lib.hid (HJ.out.step hck hcg)
        clear hck hcg HIH HJ
        go_wp2_with fail
        go_roundg gk
        case rel => exact ⟨i + 1, v5, by omega, by go_num, by rw [HY.out]; exact HJ2.out⟩
        case measure => omega
       ·have hik2 : i = x.kids.length := by omega
        subst hik2
        rw [List.take_length] at HJ
        have HRES := Lib.hid (nodeR_eq x c)
        have hkl := HKL.out
        generalize kidsR fnT x.kids (headC x c) = cF at *
        have hr : nodeR fnT x c = cF := by
         rw [HRES.out]
         unfold after
         rw [if_neg (fun h => k9 h.1)]
        have HR := Lib.hid hr
        clear hr
        go_wp2_with fail
        go_end0
        exact ⟨rfl, _, by rw [HR.out]; exact HJ.out.ck, HJ.out.chg⟩
     ·have HHC := Lib.hid (head19_ne (c := c) k19 hf hml)
      have hmb : (m != (x.kids.length : Int)) = true := by simp [bne, hml]
      clear hf hm hml
      go_wp2_with fail
      refine (fault_any B q _ c 2003 x.at' _ HI2.out.ck).mono ?_; rintro e w3 ⟨rfl, hck, hcg⟩
      have HN : Hid (NI B q b1 x (.slice a x.kids.length n) w (.slice aS c.set.length nS) (headC x c) w3 (.slice aS c.set.length nS)) := by rw [HHC.out]; exact HI2.out.step hck hcg
      clear hck hcg
      clear p0 p1 p2 p3 p4 pf0 pf1 pf2 pf3 pf4 pl
      have p0 := blk_cell (HN.out.box) 0
      have p1 := blk_cell (HN.out.box) 1
      have p2 := blk_cell (HN.out.box) 2
      have p3 := blk_cell (HN.out.box) 3
      have p4 := blk_cell (HN.out.box) 4
      have pf0 := blk_free (HN.out.box) 0
      have pf1 := blk_free (HN.out.box) 1
      have pf2 := blk_free (HN.out.box) 2
      have pf3 := blk_free (HN.out.box) 3
      have pf4 := blk_free (HN.out.box) 4
      have pl := blk_lt (HN.out.box)
      simp only [List.getElem?_toArray, List.getElem?_cons_zero, List.getElem?_cons_succ] at p0 p1 p2 p3 p4
      clear p0 p1 p2 p3 p4 pf0 pf1 pf2 pf3 pf4 pl
      go_wp2_with fail
      go_loopg [6] x.kids.length (fun kk v6 wr => ∃ (i : Nat) (v2 : Value), i + kk = x.kids.length ∧ v6 = .int .i64 i ∧ Hid (NI B q b1 x (.slice a x.kids.length n) w (.slice aS c.set.length nS) (kidsR fnT (x.kids.take i) (headC x c)) wr v2))
      case atStart => exact ⟨0, _, by omega, rfl, HN.out⟩
      case round =>
       clear HN HI
       obtain ⟨i, v2, hik, rfl, HJ⟩ := hrel
       have p0 := blk_cell (HJ.out.box) 0
       have p1 := blk_cell (HJ.out.box) 1
       have p2 := blk_cell (HJ.out.box) 2
       have p3 := blk_cell (HJ.out.box) 3
       have p4 := blk_cell (HJ.out.box) 4
       have pf0 := blk_free (HJ.out.box) 0
       have pf1 := blk_free (HJ.out.box) 1
       have pf2 := blk_free (HJ.out.box) 2
       have pf3 := blk_free (HJ.out.box) 3
       have pf4 := blk_free (HJ.out.box) 4
       have pl := blk_lt (HJ.out.box)
       simp only [List.getElem?_toArray, List.getElem?_cons_zero, List.getElem?_cons_succ] at p0 p1 p2 p3 p4
       by_cases hlt : i < x.kids.length
       ·cases gk with
        | zero => omega
        | succ gk =>
        have hy : x.kids[i]? = some x.kids[i] := List.getElem?_eq_getElem hlt
        generalize x.kids[i] = y at hy
        obtain ⟨g1, c1, s1, rfl, -, hg1, hcp1, hcp2, y0, y1, y2, y3, y4, hky, hsub⟩ := (HKW.out _ _ _ HJ.out).kid hy
        unfold maxLen at hcp2
        obtain ⟨a2, n2, rfl⟩ := hky.slice
        have HIH := Lib.hid (IH y a2 n2 s1 B q v2 _ wr hky (fun b hb => HS.out b (hsub b hb)) HJ.out.ck (HLN.out i y hy))
        have HY : Hid (kidsR fnT (x.kids.take (i + 1)) (headC x c) = nodeR fnT y (kidsR fnT (x.kids.take i) (headC x c))) := kids_snoc fnT x.kids i y (headC x c) hy
        clear hky hsub hy
        go_wp2_with fail
        refine HIH.out.mono ?_; rintro e w5 ⟨rfl, v5, hck, hcg⟩
        have HJ2 := Lib.hid (HJ.out.step hck hcg)
        clear hck hcg HIH HJ
        go_wp2_with fail
        go_roundg gk
        case rel => exact ⟨i + 1, v5, by omega, by go_num, by rw [HY.out]; exact HJ2.out⟩
        case measure => omega
       ·have hik2 : i = x.kids.length := by omega
        subst hik2
        rw [List.take_length] at HJ
        have HRES := Lib.hid (nodeR_eq x c)
        have hkl := HKL.out
        generalize kidsR fnT x.kids (headC x c) = cF at *
        have hr : nodeR fnT x c = cF := by
         rw [HRES.out]
         unfold after
         rw [if_neg (fun h => k9 h.1)]
        have HR := Lib.hid hr
        clear hr
        go_wp2_with fail
        go_end0
        exact ⟨rfl, _, by rw [HR.out]; exact HJ.out.ck, HJ.out.chg⟩
   ·have e3 : (x.kind == 19) = false := beq_eq_false_iff_ne.2 k19
    have HHC := Lib.hid (head_no (c := c) k9 k14 k19)
    go_wp2_with fail
    have HN : Hid (NI B q b1 x (.slice a x.kids.length n) w (.slice aS c.set.length nS) (headC x c) w1 (.slice aS c.set.length nS)) := by rw [HHC.out]; exact HI.out
    clear p0 p1 p2 p3 p4 pf0 pf1 pf2 pf3 pf4 pl
    go_wp2_with fail
    go_loopg [6] x.kids.length (fun kk v6 wr => ∃ (i : Nat) (v2 : Value), i + kk = x.kids.length ∧ v6 = .int .i64 i ∧ Hid (NI B q b1 x (.slice a x.kids.length n) w (.slice aS c.set.length nS) (kidsR fnT (x.kids.take i) (headC x c)) wr v2))
    case atStart => exact ⟨0, _, by omega, rfl, HN.out⟩
    case round =>
     clear HN HI
     obtain ⟨i, v2, hik, rfl, HJ⟩ := hrel
     have p0 := blk_cell (HJ.out.box) 0
     have p1 := blk_cell (HJ.out.box) 1
     have p2 := blk_cell (HJ.out.box) 2
     have p3 := blk_cell (HJ.out.box) 3
     have p4 := blk_cell (HJ.out.box) 4
     have pf0 := blk_free (HJ.out.box) 0
     have pf1 := blk_free (HJ.out.box) 1
     have pf2 := blk_free (HJ.out.box) 2
     have pf3 := blk_free (HJ.out.box) 3
     have pf4 := blk_free (HJ.out.box) 4
     have pl := blk_lt (HJ.out.box)
     simp only [List.getElem?_toArray, List.getElem?_cons_zero, List.getElem?_cons_succ] at p0 p1 p2 p3 p4
     by_cases hlt : i < x.kids.length
     ·cases gk with
      | zero => omega
      | succ gk =>
      have hy : x.kids[i]? = some x.kids[i] := List.getElem?_eq_getElem hlt
      generalize x.kids[i] = y at hy
      obtain ⟨g1, c1, s1, rfl, -, hg1, hcp1, hcp2, y0, y1, y2, y3, y4, hky, hsub⟩ := (HKW.out _ _ _ HJ.out).kid hy
      unfold maxLen at hcp2
      obtain ⟨a2, n2, rfl⟩ := hky.slice
      have HIH := Lib.hid (IH y a2 n2 s1 B q v2 _ wr hky (fun b hb => HS.out b (hsub b hb)) HJ.out.ck (HLN.out i y hy))
      have HY : Hid (kidsR fnT (x.kids.take (i + 1)) (headC x c) = nodeR fnT y (kidsR fnT (x.kids.take i) (headC x c))) := kids_snoc fnT x.kids i y (headC x c) hy
      clear hky hsub hy
      go_wp2_with fail
      refine HIH.out.mono ?_; rintro e w5 ⟨rfl, v5, hck, hcg⟩
      have HJ2 := Lib.hid (HJ.out.step hck hcg)
      clear hck hcg HIH HJ
      go_wp2_with fail
      go_roundg gk
      case rel => exact ⟨i + 1, v5, by omega, by go_num, by rw [HY.out]; exact HJ2.out⟩
      case measure => omega
     ·have hik2 : i = x.kids.length := by omega
      subst hik2
      rw [List.take_length] at HJ
      have HRES := Lib.hid (nodeR_eq x c)
      have hkl := HKL.out
      generalize kidsR fnT x.kids (headC x c) = cF at *
      have hr : nodeR fnT x c = cF := by
       rw [HRES.out]
       unfold after
       rw [if_neg (fun h => k9 h.1)]
      have HR := Lib.hid hr
      clear hr
      go_wp2_with fail
      go_end0
      exact ⟨rfl, _, by rw [HR.out]; exact HJ.out.ck, HJ.out.chg⟩
theorem node_all : ∀ d, NodeAt d
 | 0 => fun x a n S B q v c w h => h.elim
 | d + 1 => node_step (node_all d)
end Go.Proofs.YtkcgldpedfafpaaGreat.rck
