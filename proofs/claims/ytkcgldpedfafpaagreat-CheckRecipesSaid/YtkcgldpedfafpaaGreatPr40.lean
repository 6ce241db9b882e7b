/-
  Proved: what the document's checker's step does. Conditions: as each theorem says.
-/
import Derived.Test.YtkcgldpedfafpaaGreatPr37
import Derived.Test.YtkcgldpedfafpaaGreatPr39
import Derived.BigQuiet
namespace Go.Proofs.YtkcgldpedfafpaaGreat.rck
open Go.RowKit
open heap
open par (Nd KV ndV ndO cnt9 cntL okStep)
open chk (Nm CS cflt faultOf after nodeR kidsR nodeP atOf errOf okp pathF stepF kidAt Ft)
open lex (run_store_float)
open many (fnL fnT shortS)
open path (SRow sv cleanR)
set_option linter.unusedVariables false
set_option linter.unusedSimpArgs false
set_option maxRecDepth 100000
attribute [local go_sem] run_store_float

theorem path_f (q : Nat) (F : Ft) (t : Nm) (a : Int) (w : World) (h : w.heap[q]? = some (ckF F)) (hF : okF F) (ht : t.length ≤ 2000000) :
  Calls Tryz.prog 37 #[PP q, .string ⟨t.toArray⟩, .int .i64 a] w fun e w' => e = .returned (.tuple #[]) ∧ w'.heap[q]? = some (ckF (F.or (pathF okp t a))) ∧ Turned [q] w w' := by
 have HP : Hid (pathF okp t a = if (cleanR [] t).2 = 0 then none else some (a, 2002)) := by
  unfold Hid pathF okp
  by_cases hp : (cleanR [] t).2 = 0 <;> simp [hp]
 have HC := Lib.hid (fun W => path.rClean_any [] t W (by simp) ht)
 have H := Lib.hid h
 go_enter Tryz.func37, Tryz.ntmps37
 go_wp2_with fail
 refine (HC.out _).mono ?_; rintro e w1 ⟨rfl, hb⟩
 have H1 := Lib.hid (blk_below h hb)
 have HT : Hid (Turned [q] w w1) := Turned.of_below hb
 generalize (cleanR [] t).2 = e1 at *
 generalize (cleanR [] t).1 = t1 at *
 clear h hb HC
 by_cases he : e1 = 0
 ·have heb : (e1 != 0) = false := by simp [he]
  rw [if_pos he] at HP
  clear he
  go_wp2_with fail
  go_end0
  exact ⟨rfl, by rw [HP.out, Option.or_none]; exact H1.out, HT.out⟩
 ·have heb : (e1 != 0) = true := by simp [bne, he]
  rw [if_neg he] at HP
  clear he
  go_wp2_with fail
  refine (fault_f q F 2002 a w1 H1.out hF (by decide)).mono ?_; rintro e w2 ⟨rfl, hck, ht2⟩
  have H2 := Lib.hid hck
  have HT2 := Lib.hid (HT.out.trans ht2)
  clear hck ht2
  go_wp2_with fail
  go_end0
  exact ⟨rfl, by rw [HP.out]; exact H2.out, HT2.out⟩
theorem below_drewN {n : Nat} {w w' : World} (h : Below n w w') : ∀ k : Nat, Below n w (w'.drewN k)
 | 0 => h
 | k + 1 => (below_drewN h k).drew
theorem nodeP_ne (x : Nd) (e : Int × Int) (h : nodeP fnT x [] = .error e) : e.2 ≠ 0 := by
 have h2 := chk.node_agree fnT x ⟨[], 0, 0⟩ rfl
 rw [show (CS.mk [] 0 0).set = [] from rfl, h] at h2
 exact h2.2.2
theorem errOf_ok (x : Nd) : okF (errOf (nodeP fnT x [])) := fun e he => by
 unfold errOf at he
 split at he
 ·cases he
 ·rename_i p hp
  cases he
  exact nodeP_ne x _ hp
theorem pathF_ok (t : Nm) (a : Int) : okF (pathF okp t a) := fun e he => by
 unfold pathF at he
 split at he
 ·cases he
 ·cases he; show (2002 : Int) ≠ 0; decide
/-- What a step's reading wants. -/
structure StepH (w : World) (d : Nat) (x : Nd) (a : Option Addr) (n : Nat) (S : List Nat) (q : Nat) (F : Ft) (names : List Nm) (vn : Value) (Bn : Nat) : Prop where
 kv : KV 25 w d x.kids (.slice a x.kids.length n) S
 st : okStep x
 sh : shortS 17408 x
 cnt : cnt9 x ≤ 1000000
 ck : w.heap[q]? = some (ckF F)
 ok : okF F
 qS : q ∉ S
 row : SRow w Bn vn names
 qn : vn.ownBlock ≠ some q
 nl : names.length ≤ 2000000
/-- Where step stands. -/
structure SI (w : World) (d : Nat) (x : Nd) (vk : Value) (S : List Nat) (q b1 : Nat) (F : Ft) (names : List Nm) (vn : Value) (Bn : Nat) (wr : World) : Prop where
 kv : KV 25 wr d x.kids vk S
 ck : wr.heap[q]? = some (ckF F)
 ok : okF F
 box : wr.heap[b1]? = some (ndO x vk)
 row : SRow wr Bn vn names
 tur : Turned [q] w wr
 qS : q ∉ S
 qn : vn.ownBlock ≠ some q
 nq : b1 ≠ q
theorem SI.turn {w wr w' : World} {d q b1 Bn : Nat} {x : Nd} {vk vn : Value} {S : List Nat} {F F' : Ft} {names : List Nm} (h : SI w d x vk S q b1 F names vn Bn wr) (hc : w'.heap[q]? = some (ckF F')) (ho : okF F') (ht : Turned [q] wr w') : SI w d x vk S q b1 F' names vn Bn w' :=
 ⟨h.kv.turned ht (fun b hb hm => h.qS ((by simpa using hm : b = q) ▸ hb)), hc, ho, ht.kept h.box (by simp; exact h.nq), h.row.turned ht (fun g hg hm => h.qn (by rw [hg, (by simpa using hm : g = q)])), h.tur.trans ht, h.qS, h.qn, h.nq⟩
theorem SI.below {w wr w' : World} {d q b1 Bn : Nat} {x : Nd} {vk vn : Value} {S : List Nat} {F : Ft} {names : List Nm} (h : SI w d x vk S q b1 F names vn Bn wr) (hb : Below wr.heap.size wr w') : SI w d x vk S q b1 F names vn Bn w' := h.turn (blk_below h.ck hb) h.ok (Turned.of_below hb)
def StepP (q : Nat) (F : Ft) (w : World) (e : Ending) (w' : World) : Prop := e = .returned (.tuple #[]) ∧ w'.heap[q]? = some (ckF F) ∧ Turned [q] w w'
theorem stepF_run {names : List Nm} {x b : Nd} (k4 : x.kind = 4) (hb : x.kids = [b]) : stepF fnT okp names x = errOf (nodeP fnT b []) := by
 unfold stepF errOf
 rw [if_pos k4, hb]
 rfl
theorem stepF_copy {names : List Nm} {x y z : Nd} (k3 : x.kind = 3) (hb : x.kids = [y, z]) : stepF fnT okp names x = (pathF okp x.text x.at').or ((pathF okp y.text y.at').or (if z.text = [] ∨ names.contains z.text = true then none else some (z.at', 2000))) := by
 unfold stepF
 rw [if_neg (by rw [k3]; decide), if_pos k3, hb]
 rfl
theorem stepF_else {names : List Nm} {x : Nd} (k4 : x.kind ≠ 4) (k3 : x.kind ≠ 3) : stepF fnT okp names x = pathF okp x.text x.at' := by
 unfold stepF
 rw [if_neg k4, if_neg k3]
/-- Is the stage there, among the first i names? -/
def isB (zt : Nm) (names : List Nm) (i : Nat) : Bool := zt.isEmpty || (names.take i).contains zt
theorem isB_succ (zt : Nm) (names : List Nm) (i : Nat) (y : Nm) (h : names[i]? = some y) : isB zt names (i + 1) = (isB zt names i || (y == zt)) := by
 unfold isB
 rw [List.take_add_one, h, Bool.eq_iff_iff]
 simp only [Option.toList_some, Bool.or_eq_true, List.contains_iff_mem, List.mem_append, List.mem_singleton, beq_iff_eq, or_assoc]
 rw [show (zt = y) = (y = zt) from propext ⟨Eq.symm, Eq.symm⟩]
theorem isB_all (zt : Nm) (names : List Nm) : isB zt names names.length = true ↔ (zt = [] ∨ names.contains zt = true) := by
 unfold isB
 rw [List.take_length, Bool.or_eq_true, List.isEmpty_iff]
set_option maxHeartbeats 4000000 in
theorem step_f (d : Nat) (x : Nd) (a : Option Addr) (n : Nat) (S : List Nat) (q : Nat) (F : Ft) (names : List Nm) (vn : Value) (Bn : Nat) (w : World) (h : StepH w (d + 2) x a n S q F names vn Bn) :
  Calls Tryz.prog 21 #[PP q, ndV x (.slice a x.kids.length n), vn] w (StepP q (F.or (stepF fnT okp names x)) w) := by
 have HI : Hid (SI w (d + 2) x (.slice a x.kids.length n) S q w.heap.size F names vn Bn (w.alloc (ndO x (.slice a x.kids.length n)))) :=
  (⟨h.kv.below ((Below.refl _ _).alloc (Nat.le_refl _) _), blk_old h.ck _, h.ok, blk_new _ _, h.row.below ((Below.refl _ _).alloc (Nat.le_refl _) _), (Turned.refl _ _).alloc _, h.qS, h.qn, by have := blk_lt h.ck; omega⟩ : SI _ _ _ _ _ _ _ _ _ _ _ _)
 have H := Lib.hid h
 clear h
 go_enter Tryz.func21, Tryz.ntmps21
 go_upto_region 3 with fail
 change Code.wp _ _ _ _ (w.alloc (ndO x (.slice a x.kids.length n)))
 generalize w.alloc (ndO x (.slice a x.kids.length n)) = w1 at *
 generalize w.heap.size = b1 at *
 have p0 := blk_cell (HI.out.box) 0
 have p1 := blk_cell (HI.out.box) 1
 have p2 := blk_cell (HI.out.box) 2
 have p3 := blk_cell (HI.out.box) 3
 have p4 := blk_cell (HI.out.box) 4
 have pf0 := blk_free (HI.out.box) 0
 have pf1 := blk_free (HI.out.box) 1
 have pf2 := blk_free (HI.out.box) 2
 have pf3 := blk_free (HI.out.box) 3
 have pf4 := blk_free (HI.out.box) 4
 have pl := blk_lt (HI.out.box)
 simp only [List.getElem?_toArray, List.getElem?_cons_zero, List.getElem?_cons_succ] at p0 p1 p2 p3 p4
 by_cases k4 : x.kind = 4
 ·have e1 : (x.kind == 4) = true := by simp [k4]
  have hst := H.out.st
  obtain ⟨b, hkb⟩ : ∃ b, x.kids = [b] := by cases x; exact hst.1 k4
  have HSF := Lib.hid (stepF_run (names := names) k4 hkb)
  have hkl : x.kids.length = 1 := by rw [hkb]; rfl
  obtain ⟨g1, c1, s1, rfl, -, hg1, hcp1, hcp2, y0, y1, y2, y3, y4, hky, hsub⟩ := HI.out.kv.kid (i := 0) (x := b) (by rw [hkb]; rfl)
  obtain ⟨a2, n2, rfl⟩ := hky.slice
  have HSC := Lib.hid (rScript_any _ b a2 n2 s1 w1 hky (by
   have h1 := H.out.cnt
   have h2 := par.cnt_kids x
   rw [hkb, par.cntL_one] at h2
   omega))
  have HEO := Lib.hid (errOf_ok b)
  rw [hkl] at p3
  simp only [Nat.zero_mul, Nat.zero_add] at y0 y1 y2 y3 y4
  clear hst hkb hky hsub hkl
  go_wp2_with fail
  refine (HSC.out).mono ?_; rintro e w2 ⟨rfl, hb⟩
  have HI2 := Lib.hid (HI.out.below hb)
  clear hb HSC
  generalize errOf (nodeP fnT b []) = r at *
  cases r with
  | none =>
   rw [show atOf (none : Ft) = (0, 0) from rfl]
   simp only
   go_wp2_with fail
   go_end0
   exact ⟨rfl, by rw [HSF.out, Option.or_none]; exact HI2.out.ck, HI2.out.tur⟩
  | some pe =>
   obtain ⟨pa, pe⟩ := pe
   have hpe : pe ≠ 0 := HEO.out _ rfl
   have hpb : (pe != 0) = true := by simp [bne, hpe]
   have HFF := Lib.hid (fault_f q F pe pa w2 HI2.out.ck HI2.out.ok hpe)
   clear hpe
   rw [show atOf (some (pa, pe) : Ft) = (pa, pe) from rfl]
   simp only
   go_wp2_with fail
   refine HFF.out.mono ?_; rintro e w3 ⟨rfl, hck, ht⟩
   have HI3 := Lib.hid (HI2.out.turn hck (HI2.out.ok.or HEO.out) ht)
   clear hck ht
   go_wp2_with fail
   go_end0
   exact ⟨rfl, by rw [HSF.out]; exact HI3.out.ck, HI3.out.tur⟩
 ·have e1 : (x.kind == 4) = false := beq_eq_false_iff_ne.2 k4
  by_cases k3 : x.kind = 3
  ·have e2 : (x.kind == 3) = true := by simp [k3]
   have hst := H.out.st
   obtain ⟨y, z, hkb⟩ : ∃ y z, x.kids = [y, z] := by cases x; exact hst.2 k3
   have HSF := Lib.hid (stepF_copy (names := names) k3 hkb)
   have hkl : x.kids.length = 2 := by rw [hkb]; rfl
   have hsh := H.out.sh
   have hy17 : y.text.length ≤ 17408 := hsh.2 k3 y (by rw [hkb]; simp)
   have HP1 := Lib.hid (path_f q F x.text x.at' w1 HI.out.ck HI.out.ok (by have := hsh.1; omega))
   have HO1 := Lib.hid (HI.out.ok.or (pathF_ok x.text x.at'))
   go_wp2_with fail
   refine HP1.out.mono ?_; rintro e w2 ⟨rfl, hck, ht⟩
   have HI2 := Lib.hid (HI.out.turn hck HO1.out ht)
   clear hck ht HP1 HO1
   generalize hF1 : F.or (pathF okp x.text x.at') = F1 at *
   have HF1 := Lib.hid hF1
   clear hF1
   clear p0 p1 p2 p3 p4 pf0 pf1 pf2 pf3 pf4 pl
   have p0 := blk_cell (HI2.out.box) 0
   have p1 := blk_cell (HI2.out.box) 1
   have p2 := blk_cell (HI2.out.box) 2
   have p3 := blk_cell (HI2.out.box) 3
   have p4 := blk_cell (HI2.out.box) 4
   have pf0 := blk_free (HI2.out.box) 0
   have pf1 := blk_free (HI2.out.box) 1
   have pf2 := blk_free (HI2.out.box) 2
   have pf3 := blk_free (HI2.out.box) 3
   have pf4 := blk_free (HI2.out.box) 4
   have pl := blk_lt (HI2.out.box)
   simp only [List.getElem?_toArray, List.getElem?_cons_zero, List.getElem?_cons_succ] at p0 p1 p2 p3 p4
   obtain ⟨g1, c1, s1, hga, -, hg1, hcp1, hcp2, y0, y1, y2, y3, y4, -, -⟩ := HI2.out.kv.kid (i := 0) (x := y) (by rw [hkb]; rfl)
   subst hga
   rw [hkl] at p3
   simp only [Nat.zero_mul, Nat.zero_add] at y0 y1 y2 y3 y4
   have HI2d := Lib.hid (HI2.out.below (Below.refl _ _).drew)
   have HP2 := Lib.hid (path_f q F1 y.text y.at' w2.drew HI2d.out.ck HI2d.out.ok (by omega))
   have HO2 := Lib.hid (HI2.out.ok.or (pathF_ok y.text y.at'))
   clear HI2 HI
   go_wp2_with fail
   go_still_tail 11, (by kernel_rfl)
   change wpList _ _ _ _ _ w2.drew
   go_wp2_with fail
   refine HP2.out.mono ?_; rintro e w3 ⟨rfl, hck, ht⟩
   have HI3 := Lib.hid (HI2d.out.turn hck HO2.out ht)
   clear hck ht HP2 HO2 HI2d
   clear y0 y1 y2 y3 y4 hg1 hcp1 hcp2
   generalize hF2 : F1.or (pathF okp y.text y.at') = F2 at *
   have HF2 := Lib.hid hF2
   clear hF2
   clear p0 p1 p2 p3 p4 pf0 pf1 pf2 pf3 pf4 pl
   have p0 := blk_cell (HI3.out.box) 0
   have p1 := blk_cell (HI3.out.box) 1
   have p2 := blk_cell (HI3.out.box) 2
   have p3 := blk_cell (HI3.out.box) 3
   have p4 := blk_cell (HI3.out.box) 4
   have pf0 := blk_free (HI3.out.box) 0
   have pf1 := blk_free (HI3.out.box) 1
   have pf2 := blk_free (HI3.out.box) 2
   have pf3 := blk_free (HI3.out.box) 3
   have pf4 := blk_free (HI3.out.box) 4
   have pl := blk_lt (HI3.out.box)
   simp only [List.getElem?_toArray, List.getElem?_cons_zero, List.getElem?_cons_succ] at p0 p1 p2 p3 p4
   obtain ⟨g3, c3, s3, hga, -, hg1, hcp1, hcp2, y0, y1, y2, y3, y4, hkz, -⟩ := HI3.out.kv.kid (i := 1) (x := z) (by rw [hkb]; rfl)
   cases hga
   obtain ⟨a3, n3, rfl⟩ := hkz.slice
   rw [hkl] at p3
   simp only [Nat.one_mul] at y0 y1 y2 y3 y4
   have HI4 := Lib.hid (HI3.out.below ((Below.refl _ _).alloc (Nat.le_refl _) (ndO z (.slice a3 z.kids.length n3))))
   have hb8 := blk_new w3 (ndO z (.slice a3 z.kids.length n3))
   clear hkz
   go_upto_region 11 with fail
   change Code.wp _ _ _ _ (w3.alloc (ndO z (.slice a3 z.kids.length n3)))
   clear y0 y1 y2 y3 y4
   generalize w3.alloc (ndO z (.slice a3 z.kids.length n3)) = w4 at *
   generalize w3.heap.size = b8 at *
   clear p0 p1 p2 p3 p4 pf0 pf1 pf2 pf3 pf4 pl
   have p0 := blk_cell (hb8) 0
   have p1 := blk_cell (hb8) 1
   have p2 := blk_cell (hb8) 2
   have p3 := blk_cell (hb8) 3
   have p4 := blk_cell (hb8) 4
   have pf0 := blk_free (hb8) 0
   have pf1 := blk_free (hb8) 1
   have pf2 := blk_free (hb8) 2
   have pf3 := blk_free (hb8) 3
   have pf4 := blk_free (hb8) 4
   have pl := blk_lt (hb8)
   simp only [List.getElem?_toArray, List.getElem?_cons_zero, List.getElem?_cons_succ] at p0 p1 p2 p3 p4
   have hrow := path.SRow.cells HI4.out.row
   have hnl := H.out.nl
   have HSF2 : Hid (F.or (stepF fnT okp names x) = F2.or (if isB z.text names names.length = true then none else some (z.at', 2000))) := by
    rw [Hid, HSF.out, ← Option.or_assoc, HF1.out, ← Option.or_assoc, HF2.out]
    congr 1
    by_cases hb : z.text = [] ∨ names.contains z.text = true
    ·rw [if_pos hb, if_pos ((isB_all _ _).2 hb)]
    ·rw [if_neg hb, if_neg (fun e => hb ((isB_all _ _).1 e))]
   have hvs : ∃ av nv, vn = .slice av names.length nv := by
    rcases hrow with ⟨h1, h2⟩ | ⟨g, c, h1, -⟩
    ·exact ⟨none, 0, by rw [h1, h2]; rfl⟩
    ·exact ⟨_, _, h1⟩
   obtain ⟨av, nv, rfl⟩ := hvs
   have HB0 : Hid (isB z.text names 0 = z.text.isEmpty) := by unfold Hid isB; simp
   clear hrow HSF HF1 HF2 hkb hkl hsh hy17 hst HI3 k4 k3
   go_wp2_with fail
   go_loopg [9, 10] names.length (fun kk v9 v10 wr => ∃ i : Nat, i + kk = names.length ∧ v9 = .bool (isB z.text names i) ∧ v10 = .int .i64 i ∧ Hid (SI w (d + 2) x (.slice (some ⟨g1, 0, none⟩) x.kids.length n) S q b1 F2 names (.slice av names.length nv) Bn wr) ∧ Hid (wr.heap[b8]? = some (ndO z (.slice a3 z.kids.length n3))))
   case atStart => exact ⟨0, by omega, by rw [HB0.out], rfl, HI4.out, hb8⟩
   case round =>
    clear HI4 hb8
    clear p0 p1 p2 p3 p4 pf0 pf1 pf2 pf3 pf4 pl
    obtain ⟨i, hik, rfl, rfl, HJ, HB8⟩ := hrel
    have p0 := blk_cell (HB8.out) 0
    have p1 := blk_cell (HB8.out) 1
    have p2 := blk_cell (HB8.out) 2
    have p3 := blk_cell (HB8.out) 3
    have p4 := blk_cell (HB8.out) 4
    have pf0 := blk_free (HB8.out) 0
    have pf1 := blk_free (HB8.out) 1
    have pf2 := blk_free (HB8.out) 2
    have pf3 := blk_free (HB8.out) 3
    have pf4 := blk_free (HB8.out) 4
    have pl := blk_lt (HB8.out)
    simp only [List.getElem?_toArray, List.getElem?_cons_zero, List.getElem?_cons_succ] at p0 p1 p2 p3 p4
    by_cases hlt : i < names.length
    ·cases gk with
     | zero => omega
     | succ gk =>
     have hy : names[i]? = some names[i] := List.getElem?_eq_getElem hlt
     generalize names[i] = y at hy
     have HSU := Lib.hid (isB_succ z.text names i y hy)
     rcases path.SRow.cells HJ.out.row with ⟨h1, h2⟩ | ⟨g, c, h1, hg, hc1, hc2, hcl⟩
     ·rw [h2] at hlt; exact absurd hlt (by simp)
     ·cases h1
      have s0 := hcl i y hy
      clear hcl hy
      have hii : (i : Int) < (names.length : Int) := by omega
      unfold maxLen at hc2
      cases hb : isB z.text names i with
      | true =>
       rw [hb, Bool.true_or] at HSU
       clear hb
       go_wp2_with fail
       go_quiet (fail)
       go_wp2_with fail
       go_roundg gk
       case rel => exact ⟨i + 1, by omega, by rw [HSU.out], by go_num, HJ.out.below (below_drewN (Below.refl _ _) _), blk_below HB8.out (below_drewN (Below.refl _ _) _)⟩
       case measure => omega
      | false =>
       rw [hb, Bool.false_or] at HSU
       clear hb
       go_wp2_with fail
       go_quiet (fail)
       go_wp2_with fail
       go_roundg gk
       case rel => exact ⟨i + 1, by omega, by rw [HSU.out], by go_num, HJ.out.below (below_drewN (Below.refl _ _) _), blk_below HB8.out (below_drewN (Below.refl _ _) _)⟩
       case measure => omega
    ·have hik2 : i = names.length := by omega
     subst hik2
     cases hb : isB z.text names names.length with
     | true =>
      rw [hb, if_pos rfl] at HSF2
      clear hb
      go_wp2_with fail
      go_end0
      exact ⟨rfl, by rw [HSF2.out, Option.or_none]; exact HJ.out.ck, HJ.out.tur⟩
     | false =>
      rw [hb, if_neg Bool.false_ne_true] at HSF2
      clear hb
      go_wp2_with fail
      refine (fault_f q F2 2000 z.at' wr HJ.out.ck HJ.out.ok (by decide)).mono ?_; rintro e w5 ⟨rfl, hck, ht⟩
      have HT := Lib.hid (HJ.out.tur.trans ht)
      have HCK := Lib.hid hck
      clear hck ht
      go_wp2_with fail
      go_end0
      exact ⟨rfl, by rw [HSF2.out]; exact HCK.out, HT.out⟩
  ·have e2 : (x.kind == 3) = false := beq_eq_false_iff_ne.2 k3
   have HSF := Lib.hid (stepF_else (names := names) k4 k3)
   have HP1 := Lib.hid (path_f q F x.text x.at' w1 HI.out.ck HI.out.ok (by have := H.out.sh.1; omega))
   go_wp2_with fail
   refine HP1.out.mono ?_; rintro e w2 ⟨rfl, hck, ht⟩
   have HI2 := Lib.hid (HI.out.turn hck (HI.out.ok.or (pathF_ok x.text x.at')) ht)
   clear hck ht HP1
   go_wp2_with fail
   go_end0
   exact ⟨rfl, by rw [HSF.out]; exact HI2.out.ck, HI2.out.tur⟩
end Go.Proofs.YtkcgldpedfafpaaGreat.rck
