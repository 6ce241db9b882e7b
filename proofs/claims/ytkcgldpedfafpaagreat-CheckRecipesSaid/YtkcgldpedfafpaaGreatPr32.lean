/-
  Proved: what check.Recipe returns. Conditions: as each theorem says.
  Proved: the statements' own question whether there is a program that answers (awake); a script and a recipe read and checked. Conditions: as each theorem says.
-/
import Derived.Test.YtkcgldpedfafpaaGreatPr31
import Derived.Test.YtkcgldpedfafpaaGreatPr24
import Derived.Test.YtkcgldpedfafpaaGreatPr23
namespace Go.Proofs.YtkcgldpedfafpaaGreat.chk
open Go.RowKit
open heap maps
open par (Nd KV Tr ndV ndC okStep okStage)
open lex (run_store_float)
open many (fnL fnT)
open path (cleanR sv)
set_option linter.unusedVariables false
set_option linter.unusedSimpArgs false
set_option maxRecDepth 100000
attribute [local go_sem] run_store_float

set_option maxHeartbeats 1000000 in
theorem look_recipe (R : Nd → Option (Int × Int)) (x : Nd) (d : Nat) (c : Value) (S : List Nat) (w : World) (hk : KV 25 w d x.kids c S)
  (hf : ∀ (g : Nat) (W : World), NdP W g 0 d x c S → Calls Tryz.prog 19 #[PA g 0] W (ThrowP (R x) W)) :
  Calls Tryz.prog 18 #[ndV x c, .func (.func 19) #[] #[]] w fun e w' => e = .returned (.tuple #[.int .i64 (atOf (R x)).1, .int .i64 (atOf (R x)).2]) ∧ Below w.heap.size w w' := by
 have HK := Lib.hid hk
 have HF := Lib.hid hf
 obtain ⟨a1, n1, rfl⟩ := hk.slice
 have hmf : ∀ (fn : Fn) (first cap : Array Value) (w : World), (Instr.makeFunc fn first cap).run Tryz.prog w = .ok (.func fn first cap) w := fun _ _ _ _ => rfl
 clear hk hf
 generalize R x = r at *
 go_enter_defers Tryz.func18, Tryz.ntmps18
 go_wp2_with fail
 have HB : Hid (Below w.heap.size w (lookW w x (.slice a1 x.kids.length n1))) := lookW_below w x _
 have HND : Hid (NdP (lookW w x (.slice a1 x.kids.length n1)) w.heap.size 0 d x (.slice a1 x.kids.length n1) S) := lookW_node w x _ d S HK.out
 have H4 := Lib.hid (lookW_at w x (.slice a1 x.kids.length n1))
 have H5 := Lib.hid (lookW_code w x (.slice a1 x.kids.length n1))
 change Calls _ _ _ (lookW w x (.slice a1 x.kids.length n1)) _
 generalize lookW w x (.slice a1 x.kids.length n1) = w1 at *
 cases r with
 | none =>
  refine (HF.out _ w1 HND.out).mono ?_
  intro e w2 hp
  obtain ⟨rfl, hb⟩ := hp
  have q4 := blk_below H4.out hb
  have q5 := blk_below H5.out hb
  have c4 := blk_cell q4 0
  have c5 := blk_cell q5 0
  have f4 := blk_free q4 0
  have f5 := blk_free q5 0
  simp only [List.getElem?_toArray, List.getElem?_cons_zero] at c4 c5
  have HB2 := Lib.hid (HB.out.trans (hb.mono HB.out.size))
  clear hb q4 q5
  go_wp2_with fail
  refine leaves_cons (f := 34) (args := #[.pointer (some ⟨w.heap.size + 1, 0, none⟩), .pointer (some ⟨w.heap.size + 1 + 1, 0, none⟩)]) (by simp) (by simp [go_sem]) ?_
  refine (look1_idle _ _ _).mono ?_
  rintro e u' w3 ⟨rfl, rfl, rfl⟩
  refine ⟨.tuple #[.int .i64 0, .int .i64 0], by simp [results, Tryz.results18, go_sem, c4, c5], rfl, (HB2.out.setCell (by simp) _).setCell (by simp; omega) _⟩
 | some p =>
  refine (HF.out _ w1 HND.out).mono ?_
  intro e w2 hp
  obtain ⟨rfl, hb⟩ := hp
  have q4 := blk_below H4.out hb
  have q5 := blk_below H5.out hb
  have HB2 := Lib.hid (HB.out.trans (hb.mono HB.out.size))
  clear hb
  go_wp2_with fail
  refine leaves_cons (f := 34) (args := #[.pointer (some ⟨w.heap.size + 1, 0, none⟩), .pointer (some ⟨w.heap.size + 1 + 1, 0, none⟩)]) (by simp) (by simp [go_sem]) ?_
  refine (look1_panic _ _ 0 0 p.1 p.2 w2 q4 q5 (by omega)).mono ?_
  rintro e u' w3 ⟨rfl, rfl, h4, h5, ht⟩
  have c4 := blk_cell h4 0
  have c5 := blk_cell h5 0
  simp only [List.getElem?_toArray, List.getElem?_cons_zero] at c4 c5
  refine ⟨.tuple #[.int .i64 p.1, .int .i64 p.2], by simp [results, Tryz.results18, go_sem, c4, c5], rfl, HB2.out.trans (ht.below HB2.out.size (by simp; omega))⟩
set_option maxHeartbeats 1000000 in
theorem cRecipe_any (x : Nd) (d : Nat) (a1 : Option Addr) (n1 : Nat) (S : List Nat) (w : World) (hk : KV 25 w d x.kids (.slice a1 x.kids.length n1) S) (hok : ∀ y ∈ x.kids, okStage y) (htx : ∀ y ∈ x.kids, ∀ z ∈ y.kids, txt1 z) :
  Calls Tryz.prog 8 #[ndV x (.slice a1 x.kids.length n1)] w fun e w' => e = .returned (.tuple #[.int .i64 (atOf (stagesF fnT okp 0 [] x.kids)).1, .int .i64 (atOf (stagesF fnT okp 0 [] x.kids)).2]) ∧ Below w.heap.size w w' := by
 have HK := Lib.hid (hk.upto (show d ≤ d + 4 by omega))
 have HF := Lib.hid (fun W hk => look_recipe (fun x => stagesF fnT okp 0 [] x.kids) x (d + 4) (.slice a1 x.kids.length n1) S W hk (fun g W hn => recipe_any x g 0 d _ S W hn hok htx))
 generalize stagesF fnT okp 0 [] x.kids = r at *
 clear hk hok htx
 go_enter Tryz.func8, Tryz.ntmps8
 go_wp2_with fail
 refine (HF.out _ (HK.out.below ((Below.refl _ _).alloc (Nat.le_refl _) _))).mono ?_; rintro e w1 ⟨rfl, hb⟩
 have HB := Lib.hid (((Below.refl w.heap.size w).alloc (Nat.le_refl _) (nodO x (.slice a1 x.kids.length n1))).trans (hb.mono (by simp)))
 clear hb
 go_wp2_with fail
 go_ret2
 exact ⟨rfl, HB.out⟩
end Go.Proofs.YtkcgldpedfafpaaGreat.chk

namespace Go.Proofs.YtkcgldpedfafpaaGreat.chk
open Go.RowKit
open heap maps
open par (Nd KV Tr ndV ndC okStep okStage stmtsR TreeR ms)
open lex (run_store_float)
open many (fnL fnT envOf st0 chkS recipeR shortS)
open path (cleanR sv)
set_option linter.unusedVariables false
set_option linter.unusedSimpArgs false
set_option maxRecDepth 100000
attribute [local go_sem] run_store_float

theorem Num_any (e : Int) (w : World) : Calls Tryz.prog 10 #[.int .i64 e] w fun e' w' => e' = .returned (.int .i64 e) ∧ w = w' := by
 go_enter Tryz.func10, Tryz.ntmps10
 go_wp2_with fail
 go_ret
 exact ⟨rfl, rfl⟩
/-- A script that is read; its first fault. -/
def ScrP (r : Int × Int) (w : World) (e : Ending) (w' : World) : Prop :=
 ∃ (x : Nd) (a : Option Addr) (n : Nat) (S : List Nat) (d : Nat), e = .returned (.tuple #[ndV x (.slice a x.kids.length n), .int .i64 0, .int .i64 0]) ∧ KV 25 w' d x.kids (.slice a x.kids.length n) S ∧ Below w.heap.size w w' ∧ atOf (errOf (nodeP fnT x [])) = r
theorem scr_any (l : List UInt8) (r : Int × Int) (w : World) (hs : l.length ≤ 1000000000) (h : chkS l 1600024 20 = some r) : Calls Tryz.prog 12 #[.string ⟨l.toArray⟩] w (ScrP r w) := by
 unfold chkS at h
 split at h
 ·rename_i ks s hr
  split at h
  ·rename_i hc
   refine (par.Script_any ⟨l.toArray⟩ w (by have : l.toArray.size = l.length := by simp
                                            show l.toArray.size ≤ _; omega) 1600024 20 ks s (by omega) (by simpa using hr)).mono ?_
   intro e w' ht
   rw [TreeR, if_pos hc] at ht
   obtain ⟨a, n, S, rfl, ⟨d, hk⟩, -, hb⟩ := ht
   refine ⟨_, a, n, S, d + 1, rfl, hk, hb, ?_⟩
   split at h <;> rename_i hn <;> rw [hn] <;> exact Option.some.inj h
  ·cases h
 ·cases h
/-- A recipe that is read; its first fault. -/
def RecP (r : Int × Int) (w : World) (e : Ending) (w' : World) : Prop :=
 ∃ (x : Nd) (a : Option Addr) (n : Nat) (S : List Nat) (d : Nat), e = .returned (.tuple #[ndV x (.slice a x.kids.length n), .int .i64 0, .int .i64 0]) ∧ KV 25 w' d x.kids (.slice a x.kids.length n) S ∧ Below w.heap.size w w' ∧ (∀ y ∈ x.kids, okStage y) ∧ (∀ y ∈ x.kids, ∀ z ∈ y.kids, txt1 z) ∧ atOf (stagesF fnT okp 0 [] x.kids) = r
def chkC (l : List UInt8) (f n m : Nat) : Option (Int × Int) := match recipeR (envOf l) f n m st0 with
 | some (x, s) => if s.code = 0 then some (atOf (stagesF fnT okp 0 [] x.kids)) else none
 | none => none
theorem rec_any (l : List UInt8) (r : Int × Int) (w : World) (hs : l.length ≤ 1000000000) (hm : ms (envOf l) st0 ≤ 100001) (h : chkC l 1600024 100002 100002 = some r) : Calls Tryz.prog 5 #[.string ⟨l.toArray⟩] w (RecP r w) := by
 unfold chkC at h
 split at h
 ·rename_i x s hr
  split at h
  ·rename_i hc
   refine (par.Recipe_any ⟨l.toArray⟩ w (by have : l.toArray.size = l.length := by simp
                                            show l.toArray.size ≤ _; omega) 1600024 100002 100002 x s (by omega) (by omega) (by simpa using hr)).mono ?_
   intro e w' ht
   rw [TreeR, if_pos hc] at ht
   obtain ⟨a, n, S, rfl, ⟨d, hk⟩, -, hb⟩ := ht
   refine ⟨x, a, n, S, d + 1, rfl, hk, hb, many.recipe_ok (by omega) (by omega) (by omega) hr hc, fun y hy z hz => ?_, Option.some.inj h⟩
   obtain ⟨h1, h2⟩ := many.recipe_short (many.env_short l) hr y hy z hz
   exact ⟨by omega, fun hk y hy => by have := h2 hk y hy; omega⟩
  ·cases h
 ·cases h
def awS : List UInt8 := [100, 111, 32, 110, 111, 116, 104, 105, 110, 103, 40, 49, 41, 59]
def awR : List UInt8 := [102, 114, 111, 109, 32, 34, 97, 34, 59, 32, 109, 107, 100, 105, 114, 32, 34, 98, 34, 59]
theorem awS_is : chkS awS 1600024 20 = some (3, 2001) := many.awake_doF
theorem awR_is : chkC awR 1600024 100002 100002 = some (0, 0) := by decide +kernel
theorem awR_ms : ms (envOf awR) st0 ≤ 100001 := by decide +kernel
set_option maxHeartbeats 1000000 in
theorem awake_any (w : World) : Calls Tryz.prog 6 #[] w fun e w' => e = .returned (.bool true) ∧ Below w.heap.size w w' := by
 have H1 := Lib.hid (fun W => scr_any awS (3, 2001) W (by decide) awS_is)
 have H2 := Lib.hid (fun W => rec_any awR (0, 0) W (by decide) awR_ms awR_is)
 go_enter Tryz.func6, Tryz.ntmps6
 go_wp2_with fail
 refine (H1.out _).mono ?_; rintro e w1 ⟨x, a, n, S, d, rfl, hk, hb, hr⟩
 have HC := Lib.hid (fun W hk => cScript_any x d a n S W hk)
 rw [hr] at HC
 have HK := Lib.hid hk
 have HB := Lib.hid hb
 clear hk hb hr H1
 go_wp2_with fail
 refine (HC.out _ (HK.out.below ((Below.refl _ _).alloc (Nat.le_refl _) _))).mono ?_; rintro e w2 ⟨rfl, hb⟩
 have HB2 := Lib.hid ((HB.out.alloc HB.out.size (nodO x (.slice a x.kids.length n))).trans (hb.mono (by have := HB.out.size; simp; omega)))
 clear hb HC HK HB
 go_wp2_with fail
 refine (H2.out _).mono ?_; rintro e w3 ⟨y, a2, n2, S2, d2, rfl, hk, hb, hok, htx, hr⟩
 have HC := Lib.hid (fun W hk => cRecipe_any y d2 a2 n2 S2 W hk hok htx)
 rw [hr] at HC
 have HK := Lib.hid hk
 have HB := Lib.hid (HB2.out.trans (hb.mono HB2.out.size))
 clear hk hb hr H2 hok htx
 go_wp2_with fail
 refine (HC.out _ (HK.out.below ((Below.refl _ _).alloc (Nat.le_refl _) _))).mono ?_; rintro e w4 ⟨rfl, hb⟩
 have HB4 := Lib.hid ((HB.out.alloc HB.out.size (nodO y (.slice a2 y.kids.length n2))).trans (hb.mono (by have := HB.out.size; simp; omega)))
 clear hb HC HK HB HB2
 go_wp2_with fail
 refine (Num_any _ _).mono ?_; rintro e w' ⟨rfl, rfl⟩
 go_wp2_with fail
 refine (Num_any _ _).mono ?_; rintro e w' ⟨rfl, rfl⟩
 go_wp2_with fail
 go_ret
 exact ⟨rfl, HB4.out⟩
end Go.Proofs.YtkcgldpedfafpaaGreat.chk
