/-
  Proved: what the document's checker's Recipe does. Conditions: as each theorem says.
-/
import Derived.Test.YtkcgldpedfafpaaGreatPr40
namespace Go.Proofs.YtkcgldpedfafpaaGreat.rck
open Go.RowKit
open heap
open par (Nd KV ndV ndO cnt9 cntL okStep okStage)
open chk (Nm CS cflt faultOf after nodeR kidsR nodeP atOf errOf okp pathF stepF stepsF stagesF kidAt Ft)
open lex (run_store_float)
open many (fnL fnT shortS)
open path (SRow sv cleanR)
set_option linter.unusedVariables false
set_option linter.unusedSimpArgs false
set_option maxRecDepth 100000
attribute [local go_sem] run_store_float

/-- Where Recipe stands. -/
structure RQ (w : World) (D : Nat) (x : Nd) (vk : Value) (S : List Nat) (F : Ft) (names : List Nm) (vn : Value) (wr : World) : Prop where
 kv : KV 25 wr D x.kids vk S
 ck : wr.heap[w.heap.size + 1]? = some (ckF F)
 ok : okF F
 box : wr.heap[w.heap.size]? = some (ndO x vk)
 row : SRow wr (w.heap.size + 2) vn names
 bel : Below w.heap.size w wr
 sS : ∀ b ∈ S, b < w.heap.size
theorem RQ.qS {w wr : World} {D : Nat} {x : Nd} {vk vn : Value} {S : List Nat} {F : Ft} {names : List Nm} (h : RQ w D x vk S F names vn wr) : w.heap.size + 1 ∉ S := fun hm => by
 have := h.sS _ hm
 omega
theorem RQ.qn {w wr : World} {D : Nat} {x : Nd} {vk vn : Value} {S : List Nat} {F : Ft} {names : List Nm} (h : RQ w D x vk S F names vn wr) : vn.ownBlock ≠ some (w.heap.size + 1) := fun e => by
 have := (World.ownsRow.lt h.row _ e).1
 omega
theorem RQ.turn {w wr w' : World} {D : Nat} {x : Nd} {vk vn : Value} {S : List Nat} {F F' : Ft} {names : List Nm} (h : RQ w D x vk S F names vn wr) (hc : w'.heap[w.heap.size + 1]? = some (ckF F')) (ho : okF F') (ht : Turned [w.heap.size + 1] wr w') : RQ w D x vk S F' names vn w' :=
 ⟨h.kv.turned ht (fun b hb hm => h.qS ((by simpa using hm : b = w.heap.size + 1) ▸ hb)), hc, ho, ht.kept h.box (by simp), h.row.turned ht (fun g hg hm => h.qn (by rw [hg, (by simpa using hm : g = w.heap.size + 1)])), h.bel.trans (ht.below h.bel.size (by simp)), h.sS⟩
theorem RQ.below {w wr w' : World} {D : Nat} {x : Nd} {vk vn : Value} {S : List Nat} {F : Ft} {names : List Nm} (h : RQ w D x vk S F names vn wr) (hb : Below wr.heap.size wr w') : RQ w D x vk S F names vn w' := h.turn (blk_below h.ck hb) h.ok (Turned.of_below hb)
theorem RQ.app {w wr : World} {D hb : Nat} {x : Nd} {vk vn : Value} {S : List Nat} {F : Ft} {names : List Nm} {t : Nm} (h : RQ w D x vk S F names vn wr) (hh : wr.heap[hb]? = some (.cells #[sv t] 9 (0, 0))) (hn : names.length ≤ 2000000) :
  ∃ g cap W2, (Builtin.append_ #[50, 50] 50 #[vn, .slice (some ⟨hb, 0, none⟩) 1 1]).run Tryz.prog wr = .ok (.slice (some ⟨g, 0, none⟩) (names.length + 1) cap) W2 ∧ RQ w D x vk S F (names ++ [t]) (.slice (some ⟨g, 0, none⟩) (names.length + 1) cap) W2 := by
 have hnews : ∀ j u, [sv t][j]? = some u → wr.cell? ((⟨hb, 0, none⟩ : Addr).add j) = some u := fun k u hu => by rw [path.add0, blk_cell hh]; simpa using hu
 have hsz := blk_lt h.ck
 obtain ⟨g, cap, W2, hr, ho, hg, hgg⟩ := path.append_s wr (w.heap.size + 2) vn names.length _ h.row ⟨hb, 0, none⟩ 1 1 [sv t] rfl hnews (by simp [Value.oneCell']) (by decide) (by omega) (by omega)
 have ht : Turned vn.ownBlock.toList wr W2 := ⟨hg.os, hg.tape, hg.output, hg.size, fun b hb hn => hg.block b hb (fun e => hn (by simp [← e]))⟩
 have hlo : ∀ b ∈ vn.ownBlock.toList, w.heap.size + 2 ≤ b := fun b hb => (World.ownsRow.lt h.row b (by simpa using hb)).1
 have hrow : SRow W2 (w.heap.size + 2) (.slice (some ⟨g, 0, none⟩) (names.length + 1) cap) (names ++ [t]) := by unfold SRow; rw [List.length_append, List.map_append]; exact ho
 refine ⟨g, cap, W2, hr, ⟨h.kv.turned ht (fun b hb hm => ?_), ht.kept h.ck (fun hm => ?_), h.ok, ht.kept h.box (fun hm => ?_), hrow, h.bel.trans (ht.below h.bel.size (fun b hb => ?_)), h.sS⟩⟩
 ·have := hlo b hm; have := h.sS b hb; omega
 ·have := hlo _ hm; omega
 ·have := hlo _ hm; omega
 ·have := hlo b hb; omega
/-- .. in a stage y. -/
structure RY (w : World) (d : Nat) (x : Nd) (vk : Value) (S : List Nat) (F : Ft) (names : List Nm) (vn : Value) (y : Nd) (vy : Value) (Sy : List Nat) (b6 : Nat) (wr : World) : Prop where
 r : RQ w (d + 4) x vk S F names vn wr
 yk : KV 25 wr (d + 3) y.kids vy Sy
 yS : ∀ b ∈ Sy, b < w.heap.size
 yb : wr.heap[b6]? = some (ndO y vy)
 n6 : w.heap.size + 1 < b6
theorem RY.turn {w wr w' : World} {d b6 : Nat} {x y : Nd} {vk vn vy : Value} {S Sy : List Nat} {F F' : Ft} {names : List Nm} (h : RY w d x vk S F names vn y vy Sy b6 wr) (hc : w'.heap[w.heap.size + 1]? = some (ckF F')) (ho : okF F') (ht : Turned [w.heap.size + 1] wr w') : RY w d x vk S F' names vn y vy Sy b6 w' :=
 ⟨h.r.turn hc ho ht, h.yk.turned ht (fun b hb hm => by
  have h1 := h.yS b hb
  have h2 : b = w.heap.size + 1 := by simpa using hm
  omega), h.yS, ht.kept h.yb (by have := h.n6; simp; omega), h.n6⟩
theorem RY.below {w wr w' : World} {d b6 : Nat} {x y : Nd} {vk vn vy : Value} {S Sy : List Nat} {F : Ft} {names : List Nm} (h : RY w d x vk S F names vn y vy Sy b6 wr) (hb : Below wr.heap.size wr w') : RY w d x vk S F names vn y vy Sy b6 w' := h.turn (blk_below h.r.ck hb) h.r.ok (Turned.of_below hb)
/-- .. its name z. -/
structure RS (w : World) (d : Nat) (x : Nd) (vk : Value) (S : List Nat) (F : Ft) (names : List Nm) (vn : Value) (y : Nd) (vy : Value) (Sy : List Nat) (b6 : Nat) (z : Nd) (vz : Value) (b7 : Nat) (wr : World) : Prop where
 y : RY w d x vk S F names vn y vy Sy b6 wr
 zb : wr.heap[b7]? = some (ndO z vz)
 n7 : w.heap.size + 1 < b7
theorem RS.turn {w wr w' : World} {d b6 b7 : Nat} {x y z : Nd} {vk vn vy vz : Value} {S Sy : List Nat} {F F' : Ft} {names : List Nm} (h : RS w d x vk S F names vn y vy Sy b6 z vz b7 wr) (hc : w'.heap[w.heap.size + 1]? = some (ckF F')) (ho : okF F') (ht : Turned [w.heap.size + 1] wr w') : RS w d x vk S F' names vn y vy Sy b6 z vz b7 w' :=
 ⟨h.y.turn hc ho ht, ht.kept h.zb (by have := h.n7; simp; omega), h.n7⟩
theorem RS.below {w wr w' : World} {d b6 b7 : Nat} {x y z : Nd} {vk vn vy vz : Value} {S Sy : List Nat} {F : Ft} {names : List Nm} (h : RS w d x vk S F names vn y vy Sy b6 z vz b7 wr) (hb : Below wr.heap.size wr w') : RS w d x vk S F names vn y vy Sy b6 z vz b7 w' := h.turn (blk_below h.y.r.ck hb) h.y.r.ok (Turned.of_below hb)
/-- The fault of a name that was there, among the first k names. -/
def dupF (F : Ft) (zt : Nm) (za : Int) (names : List Nm) (k : Nat) : Ft := F.or (if zt ≠ [] ∧ (names.take k).contains zt = true then some (za, 2000) else none)
theorem dup_zero (F : Ft) (zt : Nm) (za : Int) (names : List Nm) : dupF F zt za names 0 = F := by
 unfold dupF
 rw [List.take_zero, if_neg (fun h => by simpa using h.2), Option.or_none]
theorem dup_empty (F : Ft) (zt : Nm) (za : Int) (names : List Nm) (k j : Nat) (h : zt = []) : dupF F zt za names k = dupF F zt za names j := by
 unfold dupF
 rw [if_neg (fun e => e.1 h), if_neg (fun e => e.1 h)]
theorem take_mem (zt : Nm) (names : List Nm) (k : Nat) (t : Nm) (h : names[k]? = some t) : (names.take (k + 1)).contains zt = ((names.take k).contains zt || (t == zt)) := by
 rw [List.take_add_one, h, Bool.eq_iff_iff]
 simp only [Option.toList_some, Bool.or_eq_true, List.contains_iff_mem, List.mem_append, List.mem_singleton, beq_iff_eq]
 rw [show (zt = t) = (t = zt) from propext ⟨Eq.symm, Eq.symm⟩]
theorem dup_no (F : Ft) (zt : Nm) (za : Int) (names : List Nm) (k : Nat) (t : Nm) (h : names[k]? = some t) (hne : (t == zt) = false) : dupF F zt za names (k + 1) = dupF F zt za names k := by
 unfold dupF
 rw [take_mem zt names k t h, hne, Bool.or_false]
theorem dup_yes (F : Ft) (zt : Nm) (za : Int) (names : List Nm) (k : Nat) (t : Nm) (h : names[k]? = some t) (hz : zt ≠ []) (he : (t == zt) = true) : (dupF F zt za names k).or (some (za, 2000)) = dupF F zt za names (k + 1) := by
 unfold dupF
 rw [take_mem zt names k t h, he, Bool.or_true]
 cases F with
 | some e => rfl
 | none =>
  rw [Option.none_or, Option.none_or, if_pos (show zt ≠ [] ∧ true = true from ⟨hz, rfl⟩)]
  split <;> rfl
theorem dup_all (F : Ft) (zt : Nm) (za : Int) (names : List Nm) : dupF F zt za names names.length = F.or (if zt ≠ [] ∧ names.contains zt = true then some (za, 2000) else none) := by
 unfold dupF
 rw [List.take_length]
theorem okF.if {p : Prop} [Decidable p] {a c : Int} (h : c ≠ 0) : okF (if p then some (a, c) else none) := fun e he => by
 split at he
 ·cases he; exact h
 ·cases he
theorem stepF_ok (names : List Nm) (x : Nd) : okF (stepF fnT okp names x) := by
 unfold stepF
 split
 ·intro e he
  split at he
  ·cases he
  ·rename_i e2 hn
   cases he
   exact nodeP_ne _ _ hn
 ·split
  ·refine (pathF_ok _ _).or ((pathF_ok _ _).or (fun e he => ?_))
   split at he
   ·cases he
   ·cases he; show (2000 : Int) ≠ 0; decide
  ·exact pathF_ok _ _
theorem drop_at {α : Type} {l : List α} {i : Nat} {y : α} (h : l[i]? = some y) : l.drop i = y :: l.drop (i + 1) := by
 obtain ⟨hi, rfl⟩ := List.getElem?_eq_some_iff.1 h
 exact List.drop_eq_getElem_cons hi
/-- The names behind a stage. -/
def namesN (names : List Nm) (zt : Nm) : List Nm := if zt ≠ [] then names ++ [zt] else names
theorem stages_cons (F : Ft) (i : Nat) (names : List Nm) (y z : Nd) (r l : List Nd) (hy : y.kids = z :: r) :
  F.or (stagesF fnT okp i names (y :: l)) = (dupF (F.or (if 8 ≤ i then some (y.at', 2004) else none)) z.text z.at' names names.length).or ((stepsF fnT okp names 0 r).or (stagesF fnT okp (i + 1) (namesN names z.text) l)) := by
 rw [dup_all, stagesF, show kidAt y.kids 0 = z by rw [hy]; rfl, show y.kids.drop 1 = r by rw [hy]; rfl]
 unfold namesN
 simp only [Option.or_assoc]
theorem steps_cons (F : Ft) (k : Nat) (names : List Nm) (s : Nd) (l : List Nd) (R : Ft) :
  F.or ((stepsF fnT okp names k (s :: l)).or R) = ((F.or (if 32 ≤ k then some (s.at', 2004) else none)).or (stepF fnT okp names s)).or ((stepsF fnT okp names (k + 1) l).or R) := by
 rw [stepsF]
 simp only [Option.or_assoc]
set_option maxHeartbeats 4000000 in
theorem recipe_f (d : Nat) (x : Nd) (a : Option Addr) (n : Nat) (S : List Nat) (w : World) (hk : KV 25 w (d + 4) x.kids (.slice a x.kids.length n) S) (hok : ∀ y ∈ x.kids, okStage y) (hsh : ∀ y ∈ x.kids, ∀ z ∈ y.kids, shortS 17408 z) (hcn : cnt9 x ≤ 1000000) (hl : x.kids.length ≤ 2000000) :
  Calls Tryz.prog 9 #[ndV x (.slice a x.kids.length n)] w fun e w' => e = .returned (.tuple #[.int .i64 (atOf (stagesF fnT okp 0 [] x.kids)).1, .int .i64 (atOf (stagesF fnT okp 0 [] x.kids)).2]) ∧ Below w.heap.size w w' := by
 have HOK := Lib.hid hok
 have HSH := Lib.hid hsh
 have HCN := Lib.hid hcn
 have HK := Lib.hid hk
 clear hok hsh hcn hk
 go_enter Tryz.func9, Tryz.ntmps9
 go_wp2_with fail
 have HI : Hid (RQ w (d + 4) x (.slice a x.kids.length n) S none [] (.slice none 0 0) ((w.alloc (ndO x (.slice a x.kids.length n))).alloc (.cells #[.slice none 0 0, .int .i64 0, .int .i64 0] 52 (0, 0)))) := by
  have hb1 : Below w.heap.size w (w.alloc (ndO x (.slice a x.kids.length n))) := (Below.refl _ _).alloc (Nat.le_refl _) _
  have hq := blk_new (w.alloc (ndO x (.slice a x.kids.length n))) (.cells #[.slice none 0 0, .int .i64 0, .int .i64 0] 52 (0, 0))
  rw [show (w.alloc (ndO x (.slice a x.kids.length n))).heap.size = w.heap.size + 1 by simp] at hq
  have hb2 : Below w.heap.size w ((w.alloc (ndO x (.slice a x.kids.length n))).alloc (.cells #[.slice none 0 0, .int .i64 0, .int .i64 0] 52 (0, 0))) := hb1.alloc (by simp) _
  exact ⟨HK.out.below hb2, hq, (fun e he => by cases he), blk_old (blk_new _ _) _, World.ownsRow_nil _ _ _ _, hb2, HK.out.lt _⟩
 generalize ((w.alloc (ndO x (.slice a x.kids.length n))).alloc (.cells #[.slice none 0 0, .int .i64 0, .int .i64 0] 52 (0, 0))) = w1 at *
 clear HK
 go_loopg [5, 6] x.kids.length (fun kk v5 v6 wr => ∃ (i : Nat) (F : Ft) (names : List Nm) (av : Option Addr) (nv : Nat), i + kk = x.kids.length ∧ v5 = .slice av names.length nv ∧ v6 = .int .i64 i ∧ names.length ≤ i ∧ Hid (RQ w (d + 4) x (.slice a x.kids.length n) S F names (.slice av names.length nv) wr) ∧ Hid (stagesF fnT okp 0 [] x.kids = F.or (stagesF fnT okp i names (x.kids.drop i))))
 case atStart => exact ⟨0, none, [], none, 0, by omega, rfl, rfl, Nat.zero_le _, HI.out, by unfold Hid; rw [Option.none_or]; rfl⟩
 case round =>
  clear HI
  obtain ⟨i, F, names, av, nv, hik, rfl, rfl, hnl, HR, HG⟩ := hrel
  have p0 := blk_cell (HR.out.box) 0
  have p1 := blk_cell (HR.out.box) 1
  have p2 := blk_cell (HR.out.box) 2
  have p3 := blk_cell (HR.out.box) 3
  have p4 := blk_cell (HR.out.box) 4
  have pf0 := blk_free (HR.out.box) 0
  have pf1 := blk_free (HR.out.box) 1
  have pf2 := blk_free (HR.out.box) 2
  have pf3 := blk_free (HR.out.box) 3
  have pf4 := blk_free (HR.out.box) 4
  have pl := blk_lt (HR.out.box)
  simp only [List.getElem?_toArray, List.getElem?_cons_zero, List.getElem?_cons_succ] at p0 p1 p2 p3 p4
  by_cases hlt : i < x.kids.length
  ·cases gk with
   | zero => omega
   | succ gko =>
   have hy : x.kids[i]? = some x.kids[i] := List.getElem?_eq_getElem hlt
   generalize x.kids[i] = y at hy
   obtain ⟨g1, c1, s1, rfl, -, hg1, hcp1, hcp2, y0, y1, y2, y3, y4, hky, hsub⟩ := HR.out.kv.kid hy
   unfold maxLen at hcp2
   obtain ⟨a2, n2, rfl⟩ := hky.slice
   have HDR := Lib.hid (drop_at hy)
   have HYM := Lib.hid (List.mem_of_getElem? hy)
   have HY : Hid (RY w d x (.slice (some ⟨g1, 0, none⟩) x.kids.length n) S F names (.slice av names.length nv) y (.slice a2 y.kids.length n2) s1 wr.heap.size (wr.alloc (ndO y (.slice a2 y.kids.length n2)))) :=
    (⟨HR.out.below ((Below.refl _ _).alloc (Nat.le_refl _) _), hky.below ((Below.refl _ _).alloc (Nat.le_refl _) _), fun b hb => HR.out.sS b (hsub b hb), blk_new _ _, blk_lt HR.out.ck⟩ : RY _ _ _ _ _ _ _ _ _ _ _ _ _)
   obtain ⟨z, r, hyk, hrs⟩ : ∃ z r, y.kids = z :: r ∧ ∀ s ∈ r, okStep s := by
    have h := HOK.out y HYM.out
    cases y; exact h
   have HYK := Lib.hid hyk
   have HRS := Lib.hid hrs
   have HYL : Hid (y.kids.length = r.length + 1) := by unfold Hid; rw [hyk]; rfl
   clear hky hsub hyk hrs hy
   go_upto_region 7 with fail
   change Code.wp _ _ _ _ (wr.alloc (ndO y (.slice a2 y.kids.length n2)))
   generalize (wr.alloc (ndO y (.slice a2 y.kids.length n2))) = wA at *
   generalize wr.heap.size = b6 at *
   clear y0 y1 y2 y3 y4 hg1
   clear p0 p1 p2 p3 p4 pf0 pf1 pf2 pf3 pf4 pl
   have p0 := blk_cell (HY.out.yb) 0
   have p1 := blk_cell (HY.out.yb) 1
   have p2 := blk_cell (HY.out.yb) 2
   have p3 := blk_cell (HY.out.yb) 3
   have p4 := blk_cell (HY.out.yb) 4
   have pf0 := blk_free (HY.out.yb) 0
   have pf1 := blk_free (HY.out.yb) 1
   have pf2 := blk_free (HY.out.yb) 2
   have pf3 := blk_free (HY.out.yb) 3
   have pf4 := blk_free (HY.out.yb) 4
   have pl := blk_lt (HY.out.yb)
   simp only [List.getElem?_toArray, List.getElem?_cons_zero, List.getElem?_cons_succ] at p0 p1 p2 p3 p4
   go_upto_if 27 with fail
   go_cut [] from 26 to 31 (fun wx => Hid (RY w d x (.slice (some ⟨g1, 0, none⟩) x.kids.length n) S (F.or (if 8 ≤ i then some (y.at', 2004) else none)) names (.slice av names.length nv) y (.slice a2 y.kids.length n2) s1 b6 wx))
   case first =>
    by_cases h8 : 8 ≤ i
    ·have h8b : decide (8 ≤ (i : Int)) = true := decide_eq_true (by omega)
     have HFF := Lib.hid (fault_f (w.heap.size + 1) F 2004 y.at' wA HY.out.r.ck HY.out.r.ok (by decide))
     go_wp2_with fail
     refine HFF.out.mono ?_; rintro e w2 ⟨rfl, hck, ht⟩
     have HY2 := Lib.hid (HY.out.turn hck (HY.out.r.ok.or (fun e he => by cases he; show (2004 : Int) ≠ 0; decide)) ht)
     clear hck ht HFF
     go_wp2_with fail
     go_meet
     rw [if_pos h8]
     exact HY2
    ·have h8b : decide (8 ≤ (i : Int)) = false := decide_eq_false (by omega)
     go_wp2_with fail
     go_meet
     rw [if_neg h8, Option.or_none]
     exact HY
   case rest =>
   have HY2 := hcut
   clear hcut
   clear HY HR
   clear p0 p1 p2 p3 p4 pf0 pf1 pf2 pf3 pf4 pl
   have HX : Hid (stagesF fnT okp 0 [] x.kids = (dupF (F.or (if 8 ≤ i then some (y.at', 2004) else none)) z.text z.at' names names.length).or ((stepsF fnT okp names 0 r).or (stagesF fnT okp (i + 1) (namesN names z.text) (x.kids.drop (i + 1))))) := by
    unfold Hid
    rw [HG.out, HDR.out, stages_cons F i names y z r _ HYK.out]
   clear HG HDR
   generalize (F.or (if 8 ≤ i then some (y.at', 2004) else none)) = F1 at *
   have p0 := blk_cell (HY2.out.yb) 0
   have p1 := blk_cell (HY2.out.yb) 1
   have p2 := blk_cell (HY2.out.yb) 2
   have p3 := blk_cell (HY2.out.yb) 3
   have p4 := blk_cell (HY2.out.yb) 4
   have pf0 := blk_free (HY2.out.yb) 0
   have pf1 := blk_free (HY2.out.yb) 1
   have pf2 := blk_free (HY2.out.yb) 2
   have pf3 := blk_free (HY2.out.yb) 3
   have pf4 := blk_free (HY2.out.yb) 4
   have pl := blk_lt (HY2.out.yb)
   simp only [List.getElem?_toArray, List.getElem?_cons_zero, List.getElem?_cons_succ] at p0 p1 p2 p3 p4
   obtain ⟨g2, c2, s2, hga, -, hg2, hdp1, hdp2, z0, z1, z2, z3, z4, hkz, -⟩ := HY2.out.yk.kid (i := 0) (x := z) (by rw [HYK.out]; rfl)
   subst hga
   unfold maxLen at hdp2
   obtain ⟨a3, n3, rfl⟩ := hkz.slice
   simp only [Nat.zero_mul, Nat.zero_add] at z0 z1 z2 z3 z4
   have hy0 : (0 : Int) < (y.kids.length : Int) := by have := HYL.out; omega
   have HS : Hid (RS w d x (.slice (some ⟨g1, 0, none⟩) x.kids.length n) S F1 names (.slice av names.length nv) y (.slice (some ⟨g2, 0, none⟩) y.kids.length n2) s1 b6 z (.slice a3 z.kids.length n3) wc.heap.size (wc.alloc (ndO z (.slice a3 z.kids.length n3)))) :=
    (⟨HY2.out.below ((Below.refl _ _).alloc (Nat.le_refl _) _), blk_new _ _, blk_lt HY2.out.r.ck⟩ : RS _ _ _ _ _ _ _ _ _ _ _ _ _ _ _ _)
   clear hkz
   go_upto_region 10 with fail
   change Code.wp _ _ _ _ (wc.alloc (ndO z (.slice a3 z.kids.length n3)))
   generalize (wc.alloc (ndO z (.slice a3 z.kids.length n3))) = w4 at *
   generalize wc.heap.size = b7 at *
   clear z0 z1 z2 z3 z4 hg2 HY2
   clear p0 p1 p2 p3 p4 pf0 pf1 pf2 pf3 pf4 pl
   go_wp2_with fail
   go_loopg [9] names.length (fun kk v9 wr2 => ∃ k : Nat, k + kk = names.length ∧ v9 = .int .i64 k ∧ Hid (RS w d x (.slice (some ⟨g1, 0, none⟩) x.kids.length n) S (dupF F1 z.text z.at' names k) names (.slice av names.length nv) y (.slice (some ⟨g2, 0, none⟩) y.kids.length n2) s1 b6 z (.slice a3 z.kids.length n3) b7 wr2))
   case atStart => exact ⟨0, by omega, rfl, by rw [dup_zero]; exact HS⟩
   case round =>
    clear HS
    obtain ⟨k, hkk, rfl, HT⟩ := hrel
    by_cases hlt2 : k < names.length
    ·cases gk with
     | zero => omega
     | succ gk =>
     have q0 := blk_cell (HT.out.zb) 0
     have q1 := blk_cell (HT.out.zb) 1
     have q2 := blk_cell (HT.out.zb) 2
     have q3 := blk_cell (HT.out.zb) 3
     have q4 := blk_cell (HT.out.zb) 4
     have qf0 := blk_free (HT.out.zb) 0
     have qf1 := blk_free (HT.out.zb) 1
     have qf2 := blk_free (HT.out.zb) 2
     have qf3 := blk_free (HT.out.zb) 3
     have qf4 := blk_free (HT.out.zb) 4
     have ql := blk_lt (HT.out.zb)
     simp only [List.getElem?_toArray, List.getElem?_cons_zero, List.getElem?_cons_succ] at q0 q1 q2 q3 q4
     have ht : names[k]? = some names[k] := List.getElem?_eq_getElem hlt2
     generalize names[k] = t at ht
     rcases path.SRow.cells HT.out.y.r.row with ⟨h1, h2⟩ | ⟨g, c, h1, hg, hc1, hc2, hcl⟩
     ·rw [h2] at hlt2; exact absurd hlt2 (by simp)
     cases h1
     unfold maxLen at hc2
     have s0 := hcl k t ht
     clear hcl
     have hkI : (k : Int) < (names.length : Int) := by omega
     by_cases hzt : z.text = []
     ·have HZE : Hid (dupF F1 z.text z.at' names k = dupF F1 z.text z.at' names (k + 1)) := dup_empty _ _ _ _ _ _ hzt
      rw [hzt] at q1
      clear hzt
      go_wp2_with fail
      go_quiet (fail)
      go_wp2_with fail
      go_roundg gk
      case rel => exact ⟨k + 1, by omega, by go_num, by rw [← HZE.out]; exact HT.out.below (below_drewN (Below.refl _ _) _)⟩
      case measure => omega
     ·have hzb : (!z.text.isEmpty) = true := by simp [hzt]
      cases hte : (t == z.text) with
      | false =>
       have HZE := Lib.hid (dup_no F1 z.text z.at' names k t ht hte)
       have hne : ¬ t = z.text := fun e => by rw [e] at hte; simp at hte
       have hned : decide (t = z.text) = false := decide_eq_false hne
       clear hzt ht
       go_wp2_with fail
       go_quiet (fail)
       go_wp2_with fail
       go_roundg gk
       case rel => exact ⟨k + 1, by omega, by go_num, by rw [HZE.out]; exact HT.out.below (below_drewN (Below.refl _ _) _)⟩
       case measure => omega
      | true =>
       have HZE := Lib.hid (dup_yes F1 z.text z.at' names k t ht hzt hte)
       have hne : t = z.text := by simpa using hte
       have hned : decide (t = z.text) = true := decide_eq_true hne
       clear hzt ht hne
       go_wp2_with fail
       go_quiet (fail)
       have HTd := Lib.hid (HT.out.below (below_drewN (Below.refl _ _) nq))
       have HFF := Lib.hid (fault_f (w.heap.size + 1) (dupF F1 z.text z.at' names k) 2000 z.at' (wr.drewN nq) HTd.out.y.r.ck HTd.out.y.r.ok (by decide))
       generalize (wr.drewN nq) = wd at *
       clear q0 q1 q2 q3 q4 qf0 qf1 qf2 qf3 qf4 ql
       have q0 := blk_cell (HTd.out.zb) 0
       have q1 := blk_cell (HTd.out.zb) 1
       have q2 := blk_cell (HTd.out.zb) 2
       have q3 := blk_cell (HTd.out.zb) 3
       have q4 := blk_cell (HTd.out.zb) 4
       have qf0 := blk_free (HTd.out.zb) 0
       have qf1 := blk_free (HTd.out.zb) 1
       have qf2 := blk_free (HTd.out.zb) 2
       have qf3 := blk_free (HTd.out.zb) 3
       have qf4 := blk_free (HTd.out.zb) 4
       have ql := blk_lt (HTd.out.zb)
       simp only [List.getElem?_toArray, List.getElem?_cons_zero, List.getElem?_cons_succ] at q0 q1 q2 q3 q4
       go_wp2_with fail
       refine HFF.out.mono ?_; rintro e w5 ⟨rfl, hck, ht⟩
       have HT2 := Lib.hid (HTd.out.turn hck (HTd.out.y.r.ok.or (fun e he => by cases he; show (2000 : Int) ≠ 0; decide)) ht)
       clear hck ht HFF HTd
       go_wp2_with fail
       go_roundg gk
       case rel => exact ⟨k + 1, by omega, by go_num, by rw [← HZE.out]; exact HT2.out⟩
       case measure => omega
    ·have hk2 : k = names.length := by omega
     subst hk2
     generalize (dupF F1 z.text z.at' names names.length) = F2 at *
     go_wp2_with fail
     go_loopg [10] (y.kids.length - 1) (fun kk v10 wr3 => ∃ (k : Nat) (F3 : Ft), k + 1 + kk = y.kids.length ∧ v10 = .int .i64 ((k : Int) + 1) ∧ Hid (RS w d x (.slice (some ⟨g1, 0, none⟩) x.kids.length n) S F3 names (.slice av names.length nv) y (.slice (some ⟨g2, 0, none⟩) y.kids.length n2) s1 b6 z (.slice a3 z.kids.length n3) b7 wr3) ∧
      Hid (stagesF fnT okp 0 [] x.kids = F3.or ((stepsF fnT okp names k (r.drop k)).or (stagesF fnT okp (i + 1) (namesN names z.text) (x.kids.drop (i + 1))))))
     case atStart => exact ⟨0, F2, by have := HYL.out; omega, rfl, HT, HX⟩
     case round =>
      clear HT HX
      obtain ⟨k, F3, hkk3, rfl, HU, HX⟩ := hrel
      have p0 := blk_cell (HU.out.y.yb) 0
      have p1 := blk_cell (HU.out.y.yb) 1
      have p2 := blk_cell (HU.out.y.yb) 2
      have p3 := blk_cell (HU.out.y.yb) 3
      have p4 := blk_cell (HU.out.y.yb) 4
      have pf0 := blk_free (HU.out.y.yb) 0
      have pf1 := blk_free (HU.out.y.yb) 1
      have pf2 := blk_free (HU.out.y.yb) 2
      have pf3 := blk_free (HU.out.y.yb) 3
      have pf4 := blk_free (HU.out.y.yb) 4
      have pl := blk_lt (HU.out.y.yb)
      simp only [List.getElem?_toArray, List.getElem?_cons_zero, List.getElem?_cons_succ] at p0 p1 p2 p3 p4
      by_cases hlt3 : k + 1 < y.kids.length
      ·cases gk with
       | zero => omega
       | succ gk =>
       obtain ⟨s, hs⟩ : ∃ s, y.kids[k + 1]? = some s := ⟨_, List.getElem?_eq_getElem hlt3⟩
       have hsr : r[k]? = some s := by rw [HYK.out, List.getElem?_cons_succ] at hs; exact hs
       have HDS := Lib.hid (drop_at hsr)
       obtain ⟨g3, c3, s3, hga3, -, hg3, hep1, hep2, t0, t1, t2, t3, t4, hks, hsub3⟩ := HU.out.y.yk.kid hs
       have hg32 : g3 = g2 := by cases hga3; rfl
       subst hg32
       unfold maxLen at hep2
       obtain ⟨a4, n4, rfl⟩ := hks.slice
       have HSS : Hid (∀ b ∈ s3, b < w.heap.size) := fun b hb => HU.out.y.yS b (hsub3 b hb)
       have HKS := Lib.hid hks
       have HST : Hid (okStep s ∧ shortS 17408 s ∧ cnt9 s ≤ 1000000) := by
        refine ⟨HRS.out s (List.mem_of_getElem? hsr), HSH.out y HYM.out s (List.mem_of_getElem? hs), ?_⟩
        have h1 := par.cntL_mem (List.mem_of_getElem? hs)
        have h2 := par.cnt_kids y
        have h3 := par.cntL_mem HYM.out
        have h4 := par.cnt_kids x
        have h5 := HCN.out
        omega
       have hk1 : ((k : Int) + 1) < (y.kids.length : Int) := by omega
       clear hks hsub3 hs hsr hga3
       have HV : Hid (RS w d x (.slice (some ⟨g1, 0, none⟩) x.kids.length n) S F3 names (.slice av names.length nv) y (.slice (some ⟨g3, 0, none⟩) y.kids.length n2) s1 b6 z (.slice a3 z.kids.length n3) b7 (wr.alloc (ndO s (.slice a4 s.kids.length n4))) ∧ (wr.alloc (ndO s (.slice a4 s.kids.length n4))).heap[wr.heap.size]? = some (ndO s (.slice a4 s.kids.length n4)) ∧ KV 25 (wr.alloc (ndO s (.slice a4 s.kids.length n4))) (d + 2) s.kids (.slice a4 s.kids.length n4) s3 ∧ w.heap.size + 1 < wr.heap.size) :=
        ⟨HU.out.below ((Below.refl _ _).alloc (Nat.le_refl _) _), blk_new _ _, HKS.out.below ((Below.refl _ _).alloc (Nat.le_refl _) _), blk_lt HU.out.y.r.ck⟩
       go_upto_region 19 with fail
       change Code.wp _ _ _ _ (wr.alloc (ndO s (.slice a4 s.kids.length n4)))
       generalize (wr.alloc (ndO s (.slice a4 s.kids.length n4))) = wB at *
       generalize wr.heap.size = b8 at *
       clear t0 t1 t2 t3 t4 hg3 HKS HU
       clear p0 p1 p2 p3 p4 pf0 pf1 pf2 pf3 pf4 pl
       have p0 := blk_cell (HV.out.2.1) 0
       have p1 := blk_cell (HV.out.2.1) 1
       have p2 := blk_cell (HV.out.2.1) 2
       have p3 := blk_cell (HV.out.2.1) 3
       have p4 := blk_cell (HV.out.2.1) 4
       have pf0 := blk_free (HV.out.2.1) 0
       have pf1 := blk_free (HV.out.2.1) 1
       have pf2 := blk_free (HV.out.2.1) 2
       have pf3 := blk_free (HV.out.2.1) 3
       have pf4 := blk_free (HV.out.2.1) 4
       have pl := blk_lt (HV.out.2.1)
       simp only [List.getElem?_toArray, List.getElem?_cons_zero, List.getElem?_cons_succ] at p0 p1 p2 p3 p4
       go_upto_if 71 with fail
       go_cut [] from 70 to 75 (fun wx => Hid (RS w d x (.slice (some ⟨g1, 0, none⟩) x.kids.length n) S (F3.or (if 32 ≤ k then some (s.at', 2004) else none)) names (.slice av names.length nv) y (.slice (some ⟨g3, 0, none⟩) y.kids.length n2) s1 b6 z (.slice a3 z.kids.length n3) b7 wx ∧ wx.heap[b8]? = some (ndO s (.slice a4 s.kids.length n4)) ∧ KV 25 wx (d + 2) s.kids (.slice a4 s.kids.length n4) s3))
       case first =>
        by_cases h32 : 32 ≤ k
        ·have h32b : decide (32 < (k : Int) + 1) = true := decide_eq_true (by omega)
         have HFF := Lib.hid (fault_f (w.heap.size + 1) F3 2004 s.at' wB HV.out.1.y.r.ck HV.out.1.y.r.ok (by decide))
         go_wp2_with fail
         refine HFF.out.mono ?_; rintro e w2 ⟨rfl, hck, ht⟩
         have HV2 : Hid (RS w d x (.slice (some ⟨g1, 0, none⟩) x.kids.length n) S (F3.or (some (s.at', 2004))) names (.slice av names.length nv) y (.slice (some ⟨g3, 0, none⟩) y.kids.length n2) s1 b6 z (.slice a3 z.kids.length n3) b7 w2 ∧ w2.heap[b8]? = some (ndO s (.slice a4 s.kids.length n4)) ∧ KV 25 w2 (d + 2) s.kids (.slice a4 s.kids.length n4) s3) :=
          ⟨HV.out.1.turn hck (HV.out.1.y.r.ok.or (fun e he => by cases he; show (2004 : Int) ≠ 0; decide)) ht, ht.kept HV.out.2.1 (by have := HV.out.2.2.2; simp; omega), HV.out.2.2.1.turned ht (fun b hb hm => by
           have h1 := HSS.out b hb
           have h2 : b = w.heap.size + 1 := by simpa using hm
           omega)⟩
         clear hck ht HFF
         go_wp2_with fail
         go_meet
         rw [if_pos h32]
         exact HV2
        ·have h32b : decide (32 < (k : Int) + 1) = false := decide_eq_false (by omega)
         go_wp2_with fail
         go_meet
         rw [if_neg h32, Option.or_none]
         exact ⟨HV.out.1, HV.out.2.1, HV.out.2.2.1⟩
       case rest =>
       have HV2 := hcut
       clear hcut
       clear HV
       clear p0 p1 p2 p3 p4 pf0 pf1 pf2 pf3 pf4 pl
       have HX2 : Hid (stagesF fnT okp 0 [] x.kids = ((F3.or (if 32 ≤ k then some (s.at', 2004) else none)).or (stepF fnT okp names s)).or ((stepsF fnT okp names (k + 1) (r.drop (k + 1))).or (stagesF fnT okp (i + 1) (namesN names z.text) (x.kids.drop (i + 1))))) := by
        unfold Hid
        rw [HX.out, HDS.out, steps_cons]
       clear HX HDS
       generalize (F3.or (if 32 ≤ k then some (s.at', 2004) else none)) = F4 at *
       have p0 := blk_cell (HV2.out.2.1) 0
       have p1 := blk_cell (HV2.out.2.1) 1
       have p2 := blk_cell (HV2.out.2.1) 2
       have p3 := blk_cell (HV2.out.2.1) 3
       have p4 := blk_cell (HV2.out.2.1) 4
       have pf0 := blk_free (HV2.out.2.1) 0
       have pf1 := blk_free (HV2.out.2.1) 1
       have pf2 := blk_free (HV2.out.2.1) 2
       have pf3 := blk_free (HV2.out.2.1) 3
       have pf4 := blk_free (HV2.out.2.1) 4
       have pl := blk_lt (HV2.out.2.1)
       simp only [List.getElem?_toArray, List.getElem?_cons_zero, List.getElem?_cons_succ] at p0 p1 p2 p3 p4
       have HSTEP := Lib.hid (step_f d s a4 n4 s3 (w.heap.size + 1) F4 names (.slice av names.length nv) (w.heap.size + 2) wc ⟨HV2.out.2.2, HST.out.1, HST.out.2.1, HST.out.2.2, HV2.out.1.y.r.ck, HV2.out.1.y.r.ok, fun hm => by have := HSS.out _ hm; omega, HV2.out.1.y.r.row, HV2.out.1.y.r.qn, by omega⟩)
       go_wp2_with fail
       refine HSTEP.out.mono ?_; rintro e w5 ⟨rfl, hck, ht⟩
       have HU2 := Lib.hid (HV2.out.1.turn hck (HV2.out.1.y.r.ok.or (stepF_ok names s)) ht)
       clear hck ht HSTEP HV2
       go_wp2_with fail
       go_roundg gk
       case rel => exact ⟨k + 1, _, by omega, by go_num, HU2.out, HX2.out⟩
       case measure => omega
      ·have hk3 : ¬ ((k : Int) + 1) < (y.kids.length : Int) := by omega
       have HX2 : Hid (stagesF fnT okp 0 [] x.kids = F3.or (stagesF fnT okp (i + 1) (namesN names z.text) (x.kids.drop (i + 1)))) := by
        unfold Hid
        rw [HX.out, List.drop_eq_nil_of_le (by have := HYL.out; omega), stepsF, Option.none_or]
       clear HX
       have q0 := blk_cell (HU.out.zb) 0
       have q1 := blk_cell (HU.out.zb) 1
       have q2 := blk_cell (HU.out.zb) 2
       have q3 := blk_cell (HU.out.zb) 3
       have q4 := blk_cell (HU.out.zb) 4
       have qf0 := blk_free (HU.out.zb) 0
       have qf1 := blk_free (HU.out.zb) 1
       have qf2 := blk_free (HU.out.zb) 2
       have qf3 := blk_free (HU.out.zb) 3
       have qf4 := blk_free (HU.out.zb) 4
       have ql := blk_lt (HU.out.zb)
       simp only [List.getElem?_toArray, List.getElem?_cons_zero, List.getElem?_cons_succ] at q0 q1 q2 q3 q4
       by_cases hzt : z.text = []
       ·have HN : Hid (namesN names z.text = names) := if_neg (fun e => e hzt)
        rw [hzt] at q1
        clear hzt
        go_wp2_with fail
        go_roundg gko
        case rel => exact ⟨i + 1, F3, names, _, _, by omega, rfl, by go_num, by omega, HU.out.y.r, by unfold Hid; rw [HX2.out, HN.out]⟩
        case measure => omega
       ·have hzb : (!z.text.isEmpty) = true := by simp [hzt]
        have HN : Hid (namesN names z.text = names ++ [z.text]) := if_pos hzt
        clear hzt
        obtain ⟨g9, cap9, W9, hrun, hrq⟩ := (HU.out.y.r.below ((Below.refl _ _).alloc (Nat.le_refl _) (.cells #[sv z.text] 9 (0, 0)))).app (blk_new wr (.cells #[sv z.text] 9 (0, 0))) (by omega)
        have HRUN := Lib.hid hrun
        rw [show names.length + 1 = (names ++ [z.text]).length by simp] at hrq
        have HRQ := Lib.hid hrq
        clear hrun hrq
        go_wp2_with (at_builtin; refine reg.wpList_append rfl rfl rfl rfl rfl HRUN.out ?_)
        go_roundg gko
        case rel => exact ⟨i + 1, F3, names ++ [z.text], _, _, by omega, by rw [List.length_append]; rfl, by go_num, by simp; omega, HRQ.out, by unfold Hid; rw [HX2.out, HN.out]⟩
        case measure => omega
  ·have hi2 : i = x.kids.length := by omega
   subst hi2
   have HF : Hid (stagesF fnT okp 0 [] x.kids = F) := by
    unfold Hid
    rw [HG.out, List.drop_length, stagesF, Option.or_none]
   clear HG
   clear p0 p1 p2 p3 p4 pf0 pf1 pf2 pf3 pf4 pl
   have k0 := blk_cell (HR.out.ck) 0
   have k1 := blk_cell (HR.out.ck) 1
   have k2 := blk_cell (HR.out.ck) 2
   have kf0 := blk_free (HR.out.ck) 0
   have kf1 := blk_free (HR.out.ck) 1
   have kf2 := blk_free (HR.out.ck) 2
   have kl := blk_lt (HR.out.ck)
   simp only [List.getElem?_toArray, List.getElem?_cons_zero, List.getElem?_cons_succ] at k0 k1 k2
   have hlt : ¬ (x.kids.length : Int) < (x.kids.length : Int) := by omega
   have p0 := blk_cell (HR.out.box) 0
   have p1 := blk_cell (HR.out.box) 1
   have p2 := blk_cell (HR.out.box) 2
   have p3 := blk_cell (HR.out.box) 3
   have p4 := blk_cell (HR.out.box) 4
   have pf0 := blk_free (HR.out.box) 0
   have pf1 := blk_free (HR.out.box) 1
   have pf2 := blk_free (HR.out.box) 2
   have pf3 := blk_free (HR.out.box) 3
   have pf4 := blk_free (HR.out.box) 4
   have pl := blk_lt (HR.out.box)
   simp only [List.getElem?_toArray, List.getElem?_cons_zero, List.getElem?_cons_succ] at p0 p1 p2 p3 p4
   have HB := Lib.hid HR.out.bel
   clear HR
   go_wp2_with fail
   go_quiet (fail)
   go_wp2_with fail
   go_ret2
   exact ⟨by rw [HF.out]; rfl, below_drewN HB.out _⟩
end Go.Proofs.YtkcgldpedfafpaaGreat.rck
