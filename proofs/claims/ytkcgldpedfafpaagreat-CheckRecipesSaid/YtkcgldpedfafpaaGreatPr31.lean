/-
  Proved: what the check of a recipe's paths and steps does. Conditions: as each theorem says.
-/
import Derived.Test.YtkcgldpedfafpaaGreatPr27
import Derived.Test.YtkcgldpedfafpaaGreatPr23
import Derived.Test.YtkcgldpedfafpaaGreatPr30
namespace Go.Proofs.YtkcgldpedfafpaaGreat.chk
open Go.RowKit
open heap maps
open par (Nd KV Tr ndV ndC okStep okStage)
open lex (run_store_float)
open many (fnL fnT)
open path (cleanR sv)
set_option linter.unusedVariables false
set_option linter.unusedSimpArgs false
set_option maxRecDepth 100000
attribute [local go_sem] run_store_float

def okp (t : Nm) : Bool := decide ((cleanR [] t).2 = 0)
set_option maxHeartbeats 1000000 in
theorem pathed_any (t : Nm) (a : Int) (w : World) (ht : t.length ≤ 9223372036854775806) :
  Calls Tryz.prog 36 #[.string ⟨t.toArray⟩, .int .i64 a] w (ThrowP (pathF okp t a) w) := by
 have HCL := Lib.hid (fun W => path.Clean_any [] t W (by simp) ht)
 have HP : Hid (pathF okp t a = if (cleanR [] t).2 = 0 then none else some (a, 2002)) := by
  unfold Hid pathF okp
  by_cases h : (cleanR [] t).2 = 0 <;> simp [h]
 generalize pathF okp t a = r at *
 generalize cleanR [] t = cr at *
 obtain ⟨cs, cc⟩ := cr
 simp only at HP HCL
 by_cases hc : cc = 0
 ·subst hc
  obtain rfl := HP.out.trans (if_pos rfl)
  clear HP
  go_enter Tryz.func36, Tryz.ntmps36
  go_wp2_with fail
  refine (HCL.out _).mono ?_; rintro e w1 ⟨rfl, hb⟩
  have HB := Lib.hid hb
  clear hb
  go_wp2_with fail
  refine (fail_no _ _ _).mono ?_; rintro e w' ⟨rfl, rfl⟩
  go_wp2_with fail
  go_end0
  exact ⟨rfl, HB.out⟩
 ·have hcb : (cc == 0) = false := beq_eq_false_iff_ne.2 hc
  have hcn : (cc != 0) = true := by simp [bne, hcb]
  obtain rfl := HP.out.trans (if_neg hc)
  clear HP hc
  go_enter Tryz.func36, Tryz.ntmps36
  go_wp2_with fail
  refine (HCL.out _).mono ?_; rintro e w1 ⟨rfl, hb⟩
  have HB := Lib.hid hb
  clear hb
  go_wp2_with fail
  refine (fail_yes _ _ _).mono ?_; rintro e w' ⟨rfl, rfl⟩
  go_wp2_with fail
  exact ⟨rfl, rfl, HB.out⟩
/-- The texts that a step's check cleans are short. -/
def txt1 (x : Nd) : Prop := x.text.length ≤ 9223372036854775806 ∧ (x.kind = 3 → ∀ y ∈ x.kids, y.text.length ≤ 9223372036854775806)
/-- Where recipe's loop over stages stands. -/
def RecI (x : Nd) (d g o : Nat) (c : Value) (S : List Nat) (mp : Nat) (w1 : World) (i : Nat) (names : List Nm) (wr : World) : Prop :=
 stagesF fnT okp 0 [] x.kids = stagesF fnT okp i names (x.kids.drop i) ∧ MapS wr mp (setL names) ∧ NdP wr g o (d + 4) x c S ∧ Turned [mp] w1 wr
def StpI (y : Nd) (names : List Nm) (w1 : World) (k : Nat) (wr : World) : Prop :=
 stepsF fnT okp names 0 (y.kids.drop 1) = stepsF fnT okp names k (y.kids.drop (1 + k)) ∧ Below w1.heap.size w1 wr
theorem below_eq {mp : Nat} {w w' : World} (h : Below mp w w') (e : w.heap.size = mp) : Below w.heap.size w w' := e ▸ h
theorem drop_at {α : Type} {l : List α} {i : Nat} {y : α} (h : l[i]? = some y) : l.drop i = y :: l.drop (i + 1) := by
 obtain ⟨hi, rfl⟩ := List.getElem?_eq_some_iff.1 h
 exact List.drop_eq_getElem_cons hi
set_option maxHeartbeats 2000000 in
theorem recipe_any (x : Nd) (g o d : Nat) (c : Value) (S : List Nat) (w : World) (hn : NdP w g o (d + 4) x c S) (hok : ∀ y ∈ x.kids, okStage y) (htx : ∀ y ∈ x.kids, ∀ z ∈ y.kids, txt1 z) :
  Calls Tryz.prog 19 #[PA g o] w (ThrowP (stagesF fnT okp 0 [] x.kids) w) := by
 have HN := Lib.hid hn
 have HOK := Lib.hid hok
 have HTX := Lib.hid htx
 obtain ⟨c0, c1, -, c3, c4, kv⟩ := hn
 obtain ⟨a1, n1, rfl⟩ := kv.slice
 have gl := World.block_lt_of_cell? w _ c0
 have hmm := @run_makeMap_plain Tryz.prog
 clear kv hok htx
 go_enter Tryz.func19, Tryz.ntmps19
 go_wp2_with fail
 have HM0 : Hid (MapS (w.alloc (.map #[] 0)) w.heap.size (setL [])) := MapS.new w
 have HB1 : Hid (Below w.heap.size w (w.alloc (.map #[] 0))) := (Below.refl _ _).alloc (Nat.le_refl _) _
 have HN1 := Lib.hid (HN.out.below ((Below.refl _ _).alloc (Nat.le_refl _) (.map #[] 0)))
 generalize w.alloc (.map #[] 0) = w1 at *
 generalize hmp : w.heap.size = mp at *
 have HMP := Lib.hid hmp
 clear hmp c0 c1 c3 c4 gl hmm
 go_loopg [15] x.kids.length (fun kk v15 wr => ∃ (i : Nat) (names : List Nm), i + kk = x.kids.length ∧ v15 = .int .i64 i ∧ Hid (RecI x d g o (.slice a1 x.kids.length n1) S mp w1 i names wr))
 case atStart => exact ⟨0, [], by omega, rfl, rfl, HM0.out, HN1.out, Turned.refl _ _⟩
 case round =>
  obtain ⟨i, names, hik, rfl, HR⟩ := hrel
  have n3 := HR.out.2.2.1.c3
  have ngl := World.block_lt_of_cell? wr _ n3
  by_cases hlt : i < x.kids.length
  ·cases gk with
   | zero => omega
   | succ gko =>
   obtain ⟨y, hy⟩ : ∃ y, x.kids[i]? = some y := ⟨_, List.getElem?_eq_getElem hlt⟩
   obtain ⟨g1, cy, Sy, hag, hny, hn1, hn2⟩ := HR.out.2.2.1.kid hy
   subst hag
   have hiI : (i : Int) < (x.kids.length : Int) := by omega
   unfold maxLen at hn2
   have HY := Lib.hid hny
   have HDR := Lib.hid (drop_at hy)
   have HOKy := Lib.hid (HOK.out y (List.mem_of_getElem? hy))
   have HTXy := Lib.hid (HTX.out y (List.mem_of_getElem? hy))
   obtain ⟨y0, y1, -, y3, y4, ykv⟩ := hny
   obtain ⟨a2, n2, rfl⟩ := ykv.slice
   obtain ⟨z, hz⟩ : ∃ z, y.kids[0]? = some z := by
    have h := HOKy.out
    cases y with
    | mk k t n ks a =>
     obtain ⟨z, r, hk, -⟩ := h
     exact ⟨z, by show ks[0]? = _; rw [hk]; rfl⟩
   obtain ⟨g2, cz, Sz, hag2, hnz, hm1, hm2⟩ := HY.out.kid hz
   subst hag2
   rw [Nat.zero_mul] at hnz
   have HZ := Lib.hid hnz
   obtain ⟨z0, z1, z2, z3, z4, zkv⟩ := hnz
   obtain ⟨a3, n3', rfl⟩ := zkv.slice
   have zl := World.block_lt_of_cell? wr _ z0
   have yl := World.block_lt_of_cell? wr _ y0
   have hkA : Hid (kidAt y.kids 0 = z) := by unfold Hid kidAt; rw [List.getD_eq_getElem?_getD, hz]; rfl
   have hz2 : (0 : Int) < (y.kids.length : Int) := by have := (List.getElem?_eq_some_iff.1 hz).1; omega
   have HBR : Hid (Below mp w wr) := HB1.out.trans (HR.out.2.2.2.below (by have := HB1.out.size; have := HMP.out; omega) (by simp))
   have HX : Hid (stagesF fnT okp 0 [] x.kids = (if 8 ≤ i then some (y.at', 2004) else none).or ((if z.text ≠ [] ∧ names.contains z.text = true then some (z.at', 2000) else none).or
     ((stepsF fnT okp names 0 (y.kids.drop 1)).or (stagesF fnT okp (i + 1) (if z.text ≠ [] then names ++ [z.text] else names) (x.kids.drop (i + 1)))))) := by
    unfold Hid; rw [HR.out.1, HDR.out, stagesF, hkA.out]
   unfold maxLen at hm2
   clear ykv hy zkv hz
   by_cases h8 : 8 ≤ i
   ·have h8b : decide (8 ≤ (i : Int)) = true := decide_eq_true (by omega)
    have HE : Hid (stagesF fnT okp 0 [] x.kids = some (y.at', 2004)) := by unfold Hid; rw [HX.out, if_pos h8]; rfl
    clear h8
    go_wp2_with fail
    refine (fail_yes _ _ _).mono ?_; rintro e w' ⟨rfl, rfl⟩
    go_wp2_with fail
    refine ⟨rfl, ?_⟩
    rw [HE.out]
    exact ⟨rfl, below_eq HBR.out HMP.out⟩
   have h8b : decide (8 ≤ (i : Int)) = false := decide_eq_false (by omega)
   go_wp2_with fail
   refine (fail_no _ _ _).mono ?_; rintro e w' ⟨rfl, rfl⟩
   go_upto_region 7 with fail
   change Code.wp _ _ _ _ (wr.alloc (nodO z (.slice a3 z.kids.length n3')))
   have hzb := blk_new wr (nodO z (.slice a3 z.kids.length n3'))
   have HB7 : Hid (Below wr.heap.size wr (wr.alloc (nodO z (.slice a3 z.kids.length n3')))) := (Below.refl _ _).alloc (Nat.le_refl _) _
   have hlk := run_lookup (P := Tryz.prog) (w := wr.alloc (nodO z (.slice a3 z.kids.length n3'))) (HR.out.2.1.kept (HB7.out.block mp HR.out.2.1.lt)) Tryz.underlying66 Tryz.underlying9 (.bool false) (by kernel_rfl) z.text
   rw [look_set] at hlk
   have HBB := Lib.hid (rfl : names.contains z.text = names.contains z.text)
   generalize hcb : (names.contains z.text) = b at hlk
   have HCB := Lib.hid hcb
   have HBA : Hid (Below mp w (wr.alloc (nodO z (.slice a3 z.kids.length n3')))) := HBR.out.trans (HB7.out.mono (by have := HBR.out.size; have := HMP.out; omega))
   clear hcb HBB
   have hzb0 := blk_cell hzb 0
   have hzb1 := blk_cell hzb 1
   have hzb4 := blk_cell hzb 4
   have hzl := blk_lt hzb
   simp only [List.getElem?_toArray, List.getElem?_cons_zero, List.getElem?_cons_succ] at hzb0 hzb1 hzb4
   have HZB := Lib.hid hzb
   clear hzb
   obtain ⟨wA, hwA⟩ : ∃ wA, wA = wr.alloc (nodO z (.slice a3 z.kids.length n3')) := ⟨_, rfl⟩
   rw [← hwA] at hzb0 hzb1 hzb4 hzl HZB HB7 HBA hlk
   rw [← hwA]
   obtain ⟨bz, hbz⟩ : ∃ bz, bz = wr.heap.size := ⟨_, rfl⟩
   rw [← hbz] at hzb0 hzb1 hzb4 hzl HZB
   rw [← hbz]
   have HW := Lib.hid (And.intro hwA hbz)
   have HX2 : Hid (stagesF fnT okp 0 [] x.kids = (if z.text ≠ [] ∧ names.contains z.text = true then some (z.at', 2000) else none).or
     ((stepsF fnT okp names 0 (y.kids.drop 1)).or (stagesF fnT okp (i + 1) (if z.text ≠ [] then names ++ [z.text] else names) (x.kids.drop (i + 1))))) := by
    unfold Hid; rw [HX.out, if_neg h8]; rfl
   clear hwA hbz z0 z1 z2 z3 z4 zl y0 y1 y3 y4 yl n3 ngl h8 h8b
   go_cut [] from 37 to 48 (fun wx => wx = wA ∧ Hid (¬ (z.text ≠ [] ∧ b = true)))
   case first =>
    by_cases ht : z.text = []
    ·rw [ht] at hzb1
     have HT := Lib.hid ht
     clear ht
     go_wp2_with fail
     refine (fail_no _ _ _).mono ?_; rintro e w' ⟨rfl, rfl⟩
     go_wp2_with fail
     go_meet
     exact ⟨rfl, fun h => h.1 HT.out⟩
    ·cases b with
     | true =>
      have HE : Hid (stagesF fnT okp 0 [] x.kids = some (z.at', 2000)) := by unfold Hid; rw [HX2.out, if_pos ⟨ht, HCB.out⟩]; rfl
      have hte : (!z.text.isEmpty) = true := by simp [ht]
      clear ht
      go_wp2_with fail
      refine (fail_yes _ _ _).mono ?_; rintro e w' ⟨rfl, rfl⟩
      go_wp2_with fail
      refine ⟨rfl, ?_⟩
      rw [HE.out]
      exact ⟨rfl, below_eq HBA.out HMP.out⟩
     | false =>
      have hte : (!z.text.isEmpty) = true := by simp [ht]
      clear ht
      go_wp2_with fail
      refine (fail_no _ _ _).mono ?_; rintro e w' ⟨rfl, rfl⟩
      go_wp2_with fail
      go_meet
      exact ⟨rfl, fun h => absurd h.2 (by simp)⟩
   case rest =>
    obtain ⟨rfl, HTB⟩ := hcut
    have HX3 : Hid (stagesF fnT okp 0 [] x.kids = ((stepsF fnT okp names 0 (y.kids.drop 1)).or (stagesF fnT okp (i + 1) (if z.text ≠ [] then names ++ [z.text] else names) (x.kids.drop (i + 1))))) := by
     unfold Hid; rw [HX2.out, if_neg (by rw [HCB.out]; exact HTB.out)]; rfl
    clear HX2 HX hlk
    have HYA := Lib.hid (HY.out.below HB7.out)
    obtain ⟨y0, y1, -, y3, y4, -⟩ := HYA.out
    have yl := World.block_lt_of_cell? wc _ y0
    obtain ⟨n5, hn5⟩ : ∃ n5, n5 = n2 := ⟨_, rfl⟩
    rw [← hn5] at y3
    clear hn5
    go_upto_region 8 with fail
    go_cut [54, 55] from 49 to 55 (fun s54 s55 wx => wx = wc ∧ s54 = .int .i64 ((y.kids.length : Int) - 1) ∧ s55 = .int .i64 0)
    case first =>
     go_wp2_with fail
     all_goals
      go_meet
      exact ⟨rfl, by go_num, rfl⟩
    case rest =>
    obtain ⟨rfl, rfl, rfl⟩ := hcut
    have HLK := Lib.hid (rfl : wc.heap.size = wc.heap.size)
    clear y0 y1 y3 y4 yl hzb0 hzb1 hzb4 hzl
    go_wp2_with fail
    go_loopg [55] (y.kids.length - 1) (fun kk v55 wr2 => ∃ k : Nat, k + 1 + kk = y.kids.length ∧ v55 = .int .i64 k ∧ Hid (StpI y names wc k wr2))
    case atStart => exact ⟨0, by omega, rfl, rfl, Below.refl _ _⟩
    case round =>
     obtain ⟨k, hkk, rfl, HK⟩ := hrel
     have HYr := Lib.hid (HYA.out.below HK.out.2)
     have HMK : Hid (MapS wr mp (setL names)) := (HR.out.2.1.turned (Turned.of_below (S := []) HB7.out) (by simp)).turned (Turned.of_below (S := []) HK.out.2) (by simp)
     obtain ⟨y0, y1, -, y3, y4, -⟩ := HYr.out
     have yl := World.block_lt_of_cell? _ _ y0
     by_cases hlt2 : k + 1 < y.kids.length
     ·obtain ⟨st, hst⟩ : ∃ st, y.kids[1 + k]? = some st := ⟨_, List.getElem?_eq_getElem (by omega)⟩
      obtain ⟨g3, cs, Ss, hag3, hns, hs1, hs2⟩ := HYr.out.kid hst
      have hg3 : g3 = g2 := by cases hag3; rfl
      subst hg3
      unfold maxLen at hs2
      have hkI : (k : Int) < (y.kids.length : Int) - 1 := by omega
      have HS := Lib.hid hns
      have HDS := Lib.hid (drop_at hst)
      have HOS : Hid (okStep st) := by
       have h := HOKy.out
       cases y with
       | mk yk yt yn yks ya =>
        obtain ⟨z', r, hk, hr⟩ := h
        have h2 : yks[1 + k]? = some st := hst
        rw [hk, Nat.add_comm, List.getElem?_cons_succ] at h2
        exact hr _ (List.mem_of_getElem? h2)
      have HTS := Lib.hid (HTXy.out st (List.mem_of_getElem? hst))
      obtain ⟨s0, s1, -, s3, s4, skv⟩ := hns
      obtain ⟨a4, n4, rfl⟩ := skv.slice
      have sl := World.block_lt_of_cell? _ _ s0
      have HXS : Hid (stagesF fnT okp 0 [] x.kids = (((if 32 ≤ k then some (st.at', 2004) else none).or ((stepF fnT okp names st).or (stepsF fnT okp names (k + 1) (y.kids.drop (1 + (k + 1)))))).or (stagesF fnT okp (i + 1) (if z.text ≠ [] then names ++ [z.text] else names) (x.kids.drop (i + 1))))) := by
       unfold Hid; rw [HX3.out, HK.out.1, HDS.out, stepsF]; rfl
      clear skv hst
      have HBK : Hid (Below mp w wr) := HBA.out.trans (HK.out.2.mono (by have := HBA.out.size; have := HMP.out; omega))
      by_cases h32 : 32 ≤ k
      ·have h32b : decide (32 ≤ (k : Int)) = true := decide_eq_true (by omega)
       have HE : Hid (stagesF fnT okp 0 [] x.kids = some (st.at', 2004)) := by unfold Hid; rw [HXS.out, if_pos h32]; rfl
       clear h32
       go_wp2_with fail
       refine (fail_yes _ _ _).mono ?_; rintro e w' ⟨rfl, rfl⟩
       go_wp2_with fail
       refine ⟨rfl, ?_⟩
       rw [HE.out]
       exact ⟨rfl, below_eq HBK.out HMP.out⟩
      have h32b : decide (32 ≤ (k : Int)) = false := decide_eq_false (by omega)
      have HK2 : Hid (∀ p, stepF fnT okp names st = some p → stagesF fnT okp 0 [] x.kids = some p) := fun p h => by
       rw [HXS.out, if_neg h32, h]; rfl
      have HK1 : Hid (stepF fnT okp names st = none → stepsF fnT okp names 0 (y.kids.drop 1) = stepsF fnT okp names (k + 1) (y.kids.drop (1 + (k + 1)))) := fun h => by
       rw [HK.out.1, HDS.out, stepsF, if_neg h32, h]; rfl
      clear HXS h32
      go_upto_region 13 with fail
      refine (fail_no _ _ _).mono ?_; rintro e w' ⟨rfl, rfl⟩
      cases gk with
      | zero => omega
      | succ gk =>
      by_cases k4 : st.kind = 4
      ·obtain ⟨kb, hkb⟩ : ∃ b, st.kids = [b] := by
        have h := HOS.out
        cases st with
        | mk _ _ _ _ _ => exact h.1 k4
       have hSF : stepF fnT okp names st = errOf (nodeP fnT kb []) := by
        rw [stepF, if_pos k4, show kidAt st.kids 0 = kb by rw [hkb]; rfl]
        cases nodeP fnT kb [] <;> rfl
       obtain ⟨g4, cb, Sb, hag4, hnb, hb1, hb2⟩ := HS.out.kid (show st.kids[0]? = some kb by rw [hkb]; rfl)
       rw [Nat.zero_mul] at hnb
       subst hag4
       have hkz : (0 : Int) < (st.kids.length : Int) := by rw [hkb]; exact Int.zero_lt_one
       have HNB := Lib.hid hnb
       have HSC := Lib.hid (fun W h => script_any kb g4 0 (d + 1) cb Sb W h)
       clear hnb hb1 hb2 hkb
       rw [k4] at s0
       clear k4
       generalize errOf (nodeP fnT kb []) = r at *
       cases r with
       | none =>
        go_wp2_with fail
        refine (HSC.out _ HNB.out).mono ?_; rintro e w9 ⟨rfl, hb9⟩
        have HB9 : Hid (StpI y names wc (k + 1) w9) := ⟨HK1.out hSF, HK.out.2.trans (hb9.mono (Nat.le_trans HK.out.2.size (Nat.le_refl _)))⟩
        go_wp2_with fail
        go_roundg gk
        case rel => exact ⟨k + 1, by omega, by go_num, HB9.out⟩
        case measure => omega
       | some p =>
        have HE := Lib.hid (HK2.out p hSF)
        go_wp2_with fail
        refine (HSC.out _ HNB.out).mono ?_; rintro e w9 ⟨rfl, hb9⟩
        go_wp2_with fail
        refine ⟨rfl, ?_⟩
        rw [HE.out]
        exact ⟨rfl, below_eq (HBK.out.trans (hb9.mono (by have := HBK.out.size; have := HMP.out; omega))) HMP.out⟩
      have hk4b : (st.kind == 4) = false := beq_eq_false_iff_ne.2 k4
      by_cases k3 : st.kind = 3
      ·have hk3b : (st.kind == 3) = true := beq_iff_eq.2 k3
       obtain ⟨ka, kb, hkk2⟩ : ∃ a b, st.kids = [a, b] := by
        have h := HOS.out
        cases st with
        | mk _ _ _ _ _ => exact h.2 k3
       have hSF : stepF fnT okp names st = ((pathF okp st.text st.at').or ((pathF okp ka.text ka.at').or (if kb.text = [] ∨ names.contains kb.text = true then none else some (kb.at', 2000)))) := by
        rw [stepF, if_neg k4, if_pos k3, show kidAt st.kids 0 = ka by rw [hkk2]; rfl, show kidAt st.kids 1 = kb by rw [hkk2]; rfl]
       obtain ⟨g4, ca, Sa, hag4, hna, -, -⟩ := HS.out.kid (show st.kids[0]? = some ka by rw [hkk2]; rfl)
       obtain ⟨g5, cb, Sb, hag5, hnb, -, -⟩ := HS.out.kid (show st.kids[1]? = some kb by rw [hkk2]; rfl)
       rw [Nat.zero_mul] at hna
       rw [Nat.one_mul] at hnb
       subst hag4
       have hg5 : g5 = g4 := by cases hag5; rfl
       subst hg5
       have hkz0 : (0 : Int) < (st.kids.length : Int) := by rw [hkk2]; simp
       have hkz1 : (1 : Int) < (st.kids.length : Int) := by rw [hkk2]; simp
       have HKL : Hid (st.kids.length = 2) := by unfold Hid; rw [hkk2]; rfl
       have HNA := Lib.hid hna
       have HNB := Lib.hid hnb
       have HP1 := Lib.hid (fun W => pathed_any st.text st.at' W HTS.out.1)
       have HP2 := Lib.hid (fun W => pathed_any ka.text ka.at' W (HTS.out.2 k3 ka (by rw [hkk2]; simp)))
       have HSF := Lib.hid hSF
       clear hna hnb hkk2 k3 k4 hag5 hSF
       generalize pathF okp st.text st.at' = r1 at *
       generalize pathF okp ka.text ka.at' = r2 at *
       cases r1 with
       | some p =>
        have HE := Lib.hid (HK2.out p (by rw [HSF.out]; rfl))
        go_wp2_with fail
        go_still_tail 8, (by kernel_rfl)
        change wpList _ _ _ _ _ wr.drew
        go_wp2_with fail
        refine (HP1.out _).mono ?_; rintro e w9 ⟨rfl, hb9⟩
        have hb9 : Below wr.heap.size wr w9 := ((Below.refl wr.heap.size wr).drew).trans hb9
        go_wp2_with fail
        refine ⟨rfl, ?_⟩
        rw [HE.out]
        exact ⟨rfl, below_eq (HBK.out.trans (hb9.mono (by have := HBK.out.size; have := HMP.out; omega))) HMP.out⟩
       | none =>
        go_wp2_with fail
        go_still_tail 8, (by kernel_rfl)
        change wpList _ _ _ _ _ wr.drew
        go_wp2_with fail
        refine (HP1.out _).mono ?_; rintro e w8 ⟨rfl, hb8⟩
        have hb8 : Below wr.heap.size wr w8 := ((Below.refl wr.heap.size wr).drew).trans hb8
        have HB8 := Lib.hid hb8
        clear hb8 HP1 s0 s1 s3 s4 sl y0 y1 y3 y4 yl
        have HS8 := Lib.hid (HS.out.below HB8.out)
        have HA8 := Lib.hid (HNA.out.below HB8.out)
        obtain ⟨s0, -, -, s3, -, -⟩ := HS8.out
        rw [HKL.out] at s3
        have sl := World.block_lt_of_cell? _ _ s0
        obtain ⟨k0, k1, -, k3, k4, -⟩ := HA8.out
        simp only [Nat.zero_add] at k1 k3 k4
        have kl := World.block_lt_of_cell? _ _ k0
        cases r2 with
        | some p =>
         have HE := Lib.hid (HK2.out p (by rw [HSF.out]; rfl))
         go_wp2_with fail
         go_still_tail 14, (by kernel_rfl)
         change wpList _ _ _ _ _ w8.drew
         go_wp2_with fail
         refine (HP2.out _).mono ?_; rintro e w9 ⟨rfl, hb9⟩
         have hb9 : Below w8.heap.size w8 w9 := ((Below.refl w8.heap.size w8).drew).trans hb9
         have hb9 : Below wr.heap.size wr w9 := HB8.out.trans (hb9.mono HB8.out.size)
         go_wp2_with fail
         refine ⟨rfl, ?_⟩
         rw [HE.out]
         exact ⟨rfl, below_eq (HBK.out.trans (hb9.mono (by have := HBK.out.size; have := HMP.out; omega))) HMP.out⟩
        | none =>
         go_wp2_with fail
         go_still_tail 14, (by kernel_rfl)
         change wpList _ _ _ _ _ w8.drew
         go_wp2_with fail
         refine (HP2.out _).mono ?_; rintro e w9 ⟨rfl, hb9⟩
         have hb9 : Below w8.heap.size w8 w9 := ((Below.refl w8.heap.size w8).drew).trans hb9
         have HB9' : Hid (Below wr.heap.size wr w9) := HB8.out.trans (hb9.mono HB8.out.size)
         clear hb9 HP2 s0 s3 sl k0 k1 k3 k4 kl
         have HS9 := Lib.hid (HS.out.below HB9'.out)
         have HN9 := Lib.hid (HNB.out.below HB9'.out)
         obtain ⟨s0, -, -, s3, -, -⟩ := HS9.out
         have sl := World.block_lt_of_cell? _ _ s0
         obtain ⟨k0, k1, k2, k3, k4, kkv⟩ := HN9.out
         obtain ⟨a6, n6, rfl⟩ := kkv.slice
         have kl := World.block_lt_of_cell? _ _ k0
         clear kkv
         go_upto_region 21 with fail
         change Code.wp _ _ _ _ (w9.alloc (nodO kb (.slice a6 kb.kids.length n6)))
         have hkb := blk_new w9 (nodO kb (.slice a6 kb.kids.length n6))
         have HB10 : Hid (Below wr.heap.size wr (w9.alloc (nodO kb (.slice a6 kb.kids.length n6)))) := HB9'.out.alloc HB9'.out.size _
         have hlk := run_lookup (P := Tryz.prog) (w := w9.alloc (nodO kb (.slice a6 kb.kids.length n6))) (HMK.out.turned (Turned.of_below (S := []) HB10.out) (by simp)) Tryz.underlying66 Tryz.underlying9 (.bool false) (by kernel_rfl) kb.text
         rw [look_set] at hlk
         generalize names.contains kb.text = bb at *
         have q1 := blk_cell hkb 1
         have q4 := blk_cell hkb 4
         have ql := blk_lt hkb
         simp only [List.getElem?_toArray, List.getElem?_cons_zero, List.getElem?_cons_succ] at q1 q4
         clear hkb s0 s3 sl k0 k1 k2 k3 k4 kl
         obtain ⟨w10, hw10⟩ : ∃ w10, w10 = w9.alloc (nodO kb (.slice a6 kb.kids.length n6)) := ⟨_, rfl⟩
         rw [← hw10] at HB10 hlk q1 q4 ql
         rw [← hw10]
         obtain ⟨bk, hbk⟩ : ∃ bk, bk = w9.heap.size := ⟨_, rfl⟩
         rw [← hbk] at q1 q4 ql
         rw [← hbk]
         clear hw10 hbk HB9' HS9 HN9 HS8 HA8 HB8
         by_cases ht : kb.text = []
         ·rw [ht] at q1
          have HT := Lib.hid ht
          clear ht hlk
          go_wp2_with fail
          refine (fail_no _ _ _).mono ?_; rintro e w' ⟨rfl, rfl⟩
          have HB9 : Hid (StpI y names wc (k + 1) w10) := ⟨HK1.out (by rw [HSF.out, if_pos (Or.inl HT.out)]; rfl), HK.out.2.trans (HB10.out.mono HK.out.2.size)⟩
          go_wp2_with fail
          go_roundg gk
          case rel => exact ⟨k + 1, by omega, by go_num, HB9.out⟩
          case measure => omega
         ·have hte : (!kb.text.isEmpty) = true := by simp [ht]
          cases bb with
          | true =>
           clear ht
           go_wp2_with fail
           refine (fail_no _ _ _).mono ?_; rintro e w' ⟨rfl, rfl⟩
           have HB9 : Hid (StpI y names wc (k + 1) w10) := ⟨HK1.out (by rw [HSF.out, if_pos (Or.inr trivial)]; rfl), HK.out.2.trans (HB10.out.mono HK.out.2.size)⟩
           go_wp2_with fail
           go_roundg gk
           case rel => exact ⟨k + 1, by omega, by go_num, HB9.out⟩
           case measure => omega
          | false =>
           have HE := Lib.hid (HK2.out (kb.at', 2000) (by rw [HSF.out, if_neg (by simp [ht])]; rfl))
           clear ht
           go_wp2_with fail
           refine (fail_yes _ _ _).mono ?_; rintro e w' ⟨rfl, rfl⟩
           go_wp2_with fail
           refine ⟨rfl, ?_⟩
           rw [HE.out]
           exact ⟨rfl, below_eq (HBK.out.trans (HB10.out.mono (by have := HBK.out.size; have := HMP.out; omega))) HMP.out⟩
      have hk3b : (st.kind == 3) = false := beq_eq_false_iff_ne.2 k3
      have hSF : stepF fnT okp names st = pathF okp st.text st.at' := by rw [stepF, if_neg k4, if_neg k3]
      have HPT := Lib.hid (fun W => pathed_any st.text st.at' W HTS.out.1)
      clear k3 k4
      generalize pathF okp st.text st.at' = r at *
      cases r with
      | none =>
       go_wp2_with fail
       go_still_tail 8, (by kernel_rfl)
       change wpList _ _ _ _ _ wr.drew
       go_wp2_with fail
       refine (HPT.out _).mono ?_; rintro e w9 ⟨rfl, hb9⟩
       have hb9 : Below wr.heap.size wr w9 := ((Below.refl wr.heap.size wr).drew).trans hb9
       have HB9 : Hid (StpI y names wc (k + 1) w9) := ⟨HK1.out hSF, HK.out.2.trans (hb9.mono (Nat.le_trans HK.out.2.size (Nat.le_refl _)))⟩
       go_wp2_with fail
       go_roundg gk
       case rel => exact ⟨k + 1, by omega, by go_num, HB9.out⟩
       case measure => omega
      | some p =>
       have HE := Lib.hid (HK2.out p hSF)
       go_wp2_with fail
       go_still_tail 8, (by kernel_rfl)
       change wpList _ _ _ _ _ wr.drew
       go_wp2_with fail
       refine (HPT.out _).mono ?_; rintro e w9 ⟨rfl, hb9⟩
       have hb9 : Below wr.heap.size wr w9 := ((Below.refl wr.heap.size wr).drew).trans hb9
       go_wp2_with fail
       refine ⟨rfl, ?_⟩
       rw [HE.out]
       exact ⟨rfl, below_eq (HBK.out.trans (hb9.mono (by have := HBK.out.size; have := HMP.out; omega))) HMP.out⟩
     ·have hkI : ¬ (k : Int) < (y.kids.length : Int) - 1 := by omega
      have HX4 : Hid (stagesF fnT okp 0 [] x.kids = stagesF fnT okp (i + 1) (if z.text ≠ [] then names ++ [z.text] else names) (x.kids.drop (i + 1))) := by
       unfold Hid
       rw [HX3.out, HK.out.1, List.drop_eq_nil_of_le (by omega), stepsF]; rfl
      have hzb : wr.heap[bz]? = some (nodO z (.slice a3 z.kids.length n3')) := blk_below HZB.out HK.out.2
      have hzb1 := blk_cell hzb 1
      have hzl := blk_lt hzb
      simp only [List.getElem?_toArray, List.getElem?_cons_zero, List.getElem?_cons_succ] at hzb1
      clear hzb y0 y1 y3 y4 yl
      have hRI : ∀ (m : List Nm) (wf : World), stagesF fnT okp 0 [] x.kids = stagesF fnT okp (i + 1) m (x.kids.drop (i + 1)) → MapS wf mp (setL m) → Turned [mp] wr wf → RecI x d g o (.slice (some ⟨g1, 0, none⟩) x.kids.length n1) S mp w1 (i + 1) m wf := by
       intro m wf e1 e2 e3
       have hT := (Turned.of_below (S := [mp]) HB7.out).trans ((Turned.of_below (S := [mp]) HK.out.2).trans e3)
       exact ⟨e1, e2, HR.out.2.2.1.turned hT HR.out.2.1, HR.out.2.2.2.trans hT⟩
      have HRI := Lib.hid hRI
      clear hRI
      by_cases ht : z.text = []
      ·rw [ht] at hzb1
       have HX5 : Hid (RecI x d g o (.slice (some ⟨g1, 0, none⟩) x.kids.length n1) S mp w1 (i + 1) names wr) := HRI.out names wr (by rw [HX4.out, if_neg (by simp [ht])]) HMK.out (Turned.refl _ _)
       clear ht
       go_wp2_with fail
       go_roundg gko
       case rel => exact ⟨i + 1, names, by omega, by go_num, HX5.out⟩
       case measure => omega
      ·obtain ⟨wu, hru, hmu, htu⟩ := run_update (P := Tryz.prog) HMK.out Tryz.underlying66 Tryz.underlying9 z.text (.bool true)
       rw [upd_set, if_neg (by rw [HCB.out]; exact fun e => HTB.out ⟨ht, e⟩)] at hmu
       have HX5 := Lib.hid (HRI.out (names ++ [z.text]) wu (by rw [HX4.out, if_pos ht]) hmu htu)
       have hte : (!z.text.isEmpty) = true := by simp [ht]
       clear ht hmu htu
       go_wp2_with fail
       go_roundg gko
       case rel => exact ⟨i + 1, names ++ [z.text], by omega, by go_num, HX5.out⟩
       case measure => omega
  ·have hiI : ¬ (i : Int) < (x.kids.length : Int) := by omega
   have hi : i = x.kids.length := by omega
   have HE : Hid (stagesF fnT okp 0 [] x.kids = none) := by
    unfold Hid
    rw [HR.out.1, hi, List.drop_length, stagesF]
   go_wp2_with fail
   go_end0
   rw [HE.out]
   exact ⟨rfl, below_eq (HB1.out.trans (HR.out.2.2.2.below (by have := HB1.out.size; have := HMP.out; omega) (by simp))) HMP.out⟩
end Go.Proofs.YtkcgldpedfafpaaGreat.chk
