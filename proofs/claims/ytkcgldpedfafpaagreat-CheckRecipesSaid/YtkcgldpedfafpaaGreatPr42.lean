/-
  Proved: CheckRecipes returns true. Conditions: as each theorem says.
-/
import Derived.Test.YtkcgldpedfafpaaGreatPr38
import Derived.Test.YtkcgldpedfafpaaGreatPr41
namespace Go.Proofs.YtkcgldpedfafpaaGreat.chk
open Go.RowKit
open heap maps
open par (Nd KV LV Tr ndV ndO ndC okStep okStage stmtsR TreeR ms Wide cnt9 cntL)
open lex (run_store_float scanL)
open many (fnL fnT envOf st0 chkS recipeR shortS)
set_option linter.unusedVariables false
set_option linter.unusedSimpArgs false
set_option maxRecDepth 100000
attribute [local go_sem] run_store_float

theorem recipe_ends {E : par.PE} {f n m : Nat} {s : par.PS} (hn : ms E s < n) (hm : ms E s < m) (hf : 16 * ms E s + 8 ≤ f) : ∃ x s2, recipeR E f n m s = some (x, s2) := by
 have hs := par.ms_sT E s
 unfold recipeR
 by_cases hc : (par.sT E s).code = 0
 ·obtain ⟨x1, s1, h1, h2, h3⟩ := par.stage_ends E f n (par.sT E s) (by omega) (by omega) hc
  rw [h1]
  simp only
  obtain ⟨ks2, s3, h4, h5, h6⟩ := par.stages_ends E f n m [x1] s1 (by omega) (by omega) (by omega)
  rw [h4]
  exact ⟨_, _, rfl⟩
 ·have hst : par.stageR E f n (par.sT E s) = some (.mk 2 [] 0 [] (par.tk E (par.sT E s)).at', par.wrong E (par.sT E (par.sT E s))) := by
   unfold par.stageR
   have : par.isW E par.wFrom (par.sT E s) = false := by
    unfold par.isW par.tk par.pT
    rw [if_pos hc]
    rfl
   rw [if_neg (by rw [this]; decide)]
  rw [hst]
  simp only
  cases m with
  | zero => omega
  | succ m =>
   rw [par.stagesR, if_pos (par.wrong_code _ _)]
   exact ⟨_, _, rfl⟩
/-- What is known of a recipe that is read. -/
structure RecH (x : Nd) (s2 : par.PS) : Prop where
 wide : Wide 2000000 x
 cnt : cnt9 x ≤ 1000000
 ok : s2.code = 0 → ∀ y ∈ x.kids, okStage y
 sh : ∀ y ∈ x.kids, ∀ z ∈ y.kids, shortS 17408 z
theorem recipe_read (l : List UInt8) : ∃ x s2, recipeR (envOf l) 1600024 100002 100002 st0 = some (x, s2) ∧ RecH x s2 := by
 have hm := ms_st0 l
 obtain ⟨x, s2, hr⟩ := recipe_ends (E := envOf l) (f := 1600024) (n := 100002) (m := 100002) (s := st0) (by omega) (by omega) (by omega)
 refine ⟨x, s2, hr, par.recipe_wide _ 2000000 _ _ _ (by omega) (by omega) (by omega) (by omega) hr, ?_, fun hc => many.recipe_ok (by omega) (by omega) (by omega) hr hc, many.recipe_short (many.env_short l) hr⟩
 have := par.recipe_cnt _ _ _ _ hr
 omega
set_option maxHeartbeats 2000000 in
theorem checkRecipes_any (s : ByteArray) (w : World) (hs : s.size ≤ 9223372036854775807) :
  Calls Tryz.prog 3 #[.string s] w fun e w' => e = .returned (.bool true) ∧ Below w.heap.size w w' := by
 obtain ⟨x, s2, hr, hx⟩ := recipe_read s.data.toList
 have HS := Lib.hid (fun W => par.Recipe_any s W hs 1600024 100002 100002 x s2 (by omega) (by omega) hr)
 clear hr
 go_enter Tryz.func3, Tryz.ntmps3
 go_wp2_with fail
 refine (HS.out _).mono ?_; rintro e w1 ht
 clear HS
 rw [TreeR] at ht
 by_cases hc : s2.code = 0
 ·rw [if_pos hc] at ht
  obtain ⟨a, n, S, rfl, ⟨d, hk⟩, -, hb⟩ := ht
  have hk : KV 25 w1 (d + 1) x.kids (.slice a x.kids.length n) S := hk
  have hok := hx.ok hc
  have htx : ∀ y ∈ x.kids, ∀ z ∈ y.kids, txt1 z := fun y hy z hz => by
   obtain ⟨h1, h2⟩ := hx.sh y hy z hz
   exact ⟨by omega, fun hk y hy => by have := h2 hk y hy; omega⟩
  clear hc
  have hk := hk.upto (show d + 1 ≤ d + 4 by omega)
  have hwd := hx.wide
  have hlk := hwd.len
  have HX := Lib.hid (And.intro hok (And.intro hx htx))
  clear hok htx hx
  have HK := Lib.hid hk
  have HB := Lib.hid hb
  have HW := Lib.hid hwd
  have hlen := hwd.len
  clear hk hb hwd
  go_wp2_with fail
  refine (par.LendTree_any (d + 4) x a n S _ (HK.out.below ((Below.refl _ _).alloc (Nat.le_refl _) _)) HW.out).mono ?_; rintro e w2 ⟨g, S', rfl, hl, -, hb2⟩
  have HI := Lib.hid (CI.start HB.out HK.out hl hb2)
  clear hl hb2 HK HB
  go_wp2_with fail
  generalize (w2.alloc (ndO x (.slice (some ⟨g, 0, none⟩) x.kids.length (x.kids.length + 1)))) = w3 at *
  generalize w2.heap.size = q at *
  generalize w1.heap.size = p at *
  have HC1 := Lib.hid (fun W hk => cRecipe_any x (d + 4) (some ⟨g, 0, none⟩) (x.kids.length + 1) S' W hk HX.out.1 HX.out.2.2)
  have HC2 := Lib.hid (fun W hk => rck.recipe_f d x a n S W hk HX.out.1 HX.out.2.1.sh HX.out.2.1.cnt hlk)
  obtain ⟨r1, r2, hr⟩ : ∃ r1 r2 : Int, atOf (stagesF fnT okp 0 [] x.kids) = (r1, r2) := ⟨_, _, rfl⟩
  rw [hr] at HC1 HC2
  clear hr
  refine (HC1.out _ HI.out.yk.kv).mono ?_; rintro e w4 ⟨rfl, hb⟩
  have HI2 := Lib.hid (HI.out.below hb)
  clear hb HC1 HI
  have p0 := blk_cell (HI2.out.xb) 0
  have p1 := blk_cell (HI2.out.xb) 1
  have p2 := blk_cell (HI2.out.xb) 2
  have p3 := blk_cell (HI2.out.xb) 3
  have p4 := blk_cell (HI2.out.xb) 4
  have pf0 := blk_free (HI2.out.xb) 0
  have pf1 := blk_free (HI2.out.xb) 1
  have pf2 := blk_free (HI2.out.xb) 2
  have pf3 := blk_free (HI2.out.xb) 3
  have pf4 := blk_free (HI2.out.xb) 4
  have pl := blk_lt (HI2.out.xb)
  simp only [List.getElem?_toArray, List.getElem?_cons_zero, List.getElem?_cons_succ] at p0 p1 p2 p3 p4
  have q0 := blk_cell (HI2.out.yb) 0
  have q1 := blk_cell (HI2.out.yb) 1
  have q2 := blk_cell (HI2.out.yb) 2
  have q3 := blk_cell (HI2.out.yb) 3
  have q4 := blk_cell (HI2.out.yb) 4
  have qf0 := blk_free (HI2.out.yb) 0
  have qf1 := blk_free (HI2.out.yb) 1
  have qf2 := blk_free (HI2.out.yb) 2
  have qf3 := blk_free (HI2.out.yb) 3
  have qf4 := blk_free (HI2.out.yb) 4
  have ql := blk_lt (HI2.out.yb)
  simp only [List.getElem?_toArray, List.getElem?_cons_zero, List.getElem?_cons_succ] at q0 q1 q2 q3 q4
  go_wp2_with fail
  refine (HC2.out _ HI2.out.xk).mono ?_; rintro e w5 ⟨rfl, hb⟩
  have HI3 := Lib.hid (HI2.out.below hb)
  clear p0 p1 p2 p3 p4 pf0 pf1 pf2 pf3 pf4 pl
  clear q0 q1 q2 q3 q4 qf0 qf1 qf2 qf3 qf4 ql
  clear hb HC2 HI2
  have p0 := blk_cell (HI3.out.xb) 0
  have p1 := blk_cell (HI3.out.xb) 1
  have p2 := blk_cell (HI3.out.xb) 2
  have p3 := blk_cell (HI3.out.xb) 3
  have p4 := blk_cell (HI3.out.xb) 4
  have pf0 := blk_free (HI3.out.xb) 0
  have pf1 := blk_free (HI3.out.xb) 1
  have pf2 := blk_free (HI3.out.xb) 2
  have pf3 := blk_free (HI3.out.xb) 3
  have pf4 := blk_free (HI3.out.xb) 4
  have pl := blk_lt (HI3.out.xb)
  simp only [List.getElem?_toArray, List.getElem?_cons_zero, List.getElem?_cons_succ] at p0 p1 p2 p3 p4
  have q0 := blk_cell (HI3.out.yb) 0
  have q1 := blk_cell (HI3.out.yb) 1
  have q2 := blk_cell (HI3.out.yb) 2
  have q3 := blk_cell (HI3.out.yb) 3
  have q4 := blk_cell (HI3.out.yb) 4
  have qf0 := blk_free (HI3.out.yb) 0
  have qf1 := blk_free (HI3.out.yb) 1
  have qf2 := blk_free (HI3.out.yb) 2
  have qf3 := blk_free (HI3.out.yb) 3
  have qf4 := blk_free (HI3.out.yb) 4
  have ql := blk_lt (HI3.out.yb)
  simp only [List.getElem?_toArray, List.getElem?_cons_zero, List.getElem?_cons_succ] at q0 q1 q2 q3 q4
  go_wp2_with fail
  refine (Num_any _ _).mono ?_; rintro e w' ⟨rfl, rfl⟩
  go_wp2_with fail
  refine (par.kept_all (d + 4) x a n g S S' _ HI3.out.yk HI3.out.xk hlen HW.out).mono ?_; rintro e w6 ⟨rfl, hb⟩
  have HI4 := Lib.hid (HI3.out.below hb)
  clear p0 p1 p2 p3 p4 pf0 pf1 pf2 pf3 pf4 pl
  clear q0 q1 q2 q3 q4 qf0 qf1 qf2 qf3 qf4 ql
  clear hb HI3
  go_wp2_with fail
  refine (awake_any _).mono ?_; rintro e w7 ⟨rfl, hb⟩
  have HI5 := Lib.hid (HI4.out.below hb)
  clear hb HI4
  go_wp2_with fail
  go_ret
  exact ⟨rfl, HI5.out.bel⟩
 ·rw [if_neg hc] at ht
  obtain ⟨rfl, hb⟩ := ht
  have HB := Lib.hid hb
  have hcb : (s2.code != 0) = true := by simp [bne, hc]
  clear hb
  go_wp2_with fail
  refine (awake_any _).mono ?_; rintro e w2 ⟨rfl, hb⟩
  have HB2 := Lib.hid ((HB.out.alloc HB.out.size (ndO par.zero (.slice none 0 0))).trans (hb.mono (by have := HB.out.size; simp; omega)))
  go_wp2_with fail
  go_ret
  exact ⟨rfl, HB2.out⟩
end Go.Proofs.YtkcgldpedfafpaaGreat.chk
