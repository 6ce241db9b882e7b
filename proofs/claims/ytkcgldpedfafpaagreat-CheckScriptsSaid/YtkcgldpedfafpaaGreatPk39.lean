/-
  Proved: CheckScripts returns true. Conditions: as each theorem says.
-/
import Derived.Test.YtkcgldpedfafpaaGreatPk33
import Derived.Test.YtkcgldpedfafpaaGreatPk34
import Derived.Test.YtkcgldpedfafpaaGreatPk38
namespace Go.Proofs.YtkcgldpedfafpaaGreat.chk
open Go.RowKit
open heap maps
open par (Nd KV LV Tr ndV ndO ndC okStep okStage stmtsR TreeR ms Wide cnt9 cntL)
open lex (run_store_float scanL)
open many (fnL fnT envOf st0 chkS recipeR shortS)
set_option linter.unusedVariables false
set_option linter.unusedSimpArgs false
set_option maxRecDepth 100000
attribute [local go_sem] run_store_float

/-- A text's first state has few tokens ahead. -/
theorem ms_st0 (l : List UInt8) : ms (envOf l) st0 ≤ 100001 := by
  rw [par.ms_ok rfl]
  have := par.scanL_len l
  show (scanL l).1.length - 0 + 1 ≤ _
  omega
theorem script_read (l : List UInt8) : ∃ ks s2, stmtsR (envOf l) 1600024 100002 [] st0 = some (ks, s2) ∧ Wide 2000000 (.mk 8 [] 0 ks 0) ∧ cnt9 (.mk 8 [] 0 ks 0) ≤ 1000000 := by
  have hm := ms_st0 l
  obtain ⟨ks, s2, hr, _⟩ := par.stmts_ends (envOf l) 1600024 100002 [] st0 (by omega) (by omega)
  have hr : stmtsR (envOf l) 1600024 100002 [] st0 = some (ks, s2) := hr
  refine ⟨ks, s2, hr, (par.stmts_wide _ 2000000 1600024 (by omega) (by omega) 100002 [] ks st0 s2 (by simp) (by simp) hr).nd, ?_⟩
  have := par.stmts_cnt _ 1600024 100002 [] ks st0 s2 hr
  rw [cnt9]
  simp [cntL] at this ⊢
  omega
/-- Where the law stands: the tree x and the lent one. -/
structure CI (w : World) (x : Nd) (d p q : Nat) (a : Option Addr) (n : Nat) (S : List Nat) (g : Nat) (S' : List Nat) (W : World) : Prop where
  xb : W.heap[p]? = some (ndO x (.slice a x.kids.length n))
  yb : W.heap[q]? = some (ndO x (.slice (some ⟨g, 0, none⟩) x.kids.length (x.kids.length + 1)))
  xk : KV 25 W d x.kids (.slice a x.kids.length n) S
  yk : LV 25 W d x.kids (.slice (some ⟨g, 0, none⟩) x.kids.length (x.kids.length + 1)) S'
  bel : Below w.heap.size w W
theorem CI.below {w W W2 : World} {x : Nd} {d p q : Nat} {a : Option Addr} {n : Nat} {S : List Nat} {g : Nat} {S' : List Nat} (h : CI w x d p q a n S g S' W) (hb : Below W.heap.size W W2) : CI w x d p q a n S g S' W2 :=
  ⟨blk_below h.xb hb, blk_below h.yb hb, h.xk.below hb, h.yk.below hb, h.bel.trans (hb.mono h.bel.size)⟩
/-- The two blocks are laid. -/
theorem CI.start {w w1 w2 : World} {x : Nd} {d : Nat} {a : Option Addr} {n : Nat} {S : List Nat} {g : Nat} {S' : List Nat} (hb : Below w.heap.size w w1) (hk : KV 25 w1 d x.kids (.slice a x.kids.length n) S)
    (hl : LV 25 w2 d x.kids (.slice (some ⟨g, 0, none⟩) x.kids.length (x.kids.length + 1)) S') (hb2 : Below (w1.alloc (ndO x (.slice a x.kids.length n))).heap.size (w1.alloc (ndO x (.slice a x.kids.length n))) w2) :
    CI w x d w1.heap.size w2.heap.size a n S g S' (w2.alloc (ndO x (.slice (some ⟨g, 0, none⟩) x.kids.length (x.kids.length + 1)))) := by
  have h1 : Below w1.heap.size w1 (w1.alloc (ndO x (.slice a x.kids.length n))) := (Below.refl _ _).alloc (Nat.le_refl _) _
  have h2 : Below w2.heap.size w2 (w2.alloc (ndO x (.slice (some ⟨g, 0, none⟩) x.kids.length (x.kids.length + 1)))) := (Below.refl _ _).alloc (Nat.le_refl _) _
  have h3 : Below w1.heap.size w1 w2 := h1.trans (hb2.mono h1.size)
  exact ⟨blk_below (blk_below (blk_new _ _) hb2) h2, blk_new _ _, (hk.below h3).below h2, hl.below h2, (hb.trans (h3.mono hb.size)).trans (h2.mono (Nat.le_trans hb.size h3.size))⟩
set_option maxHeartbeats 2000000 in
theorem checkScripts_any (s : ByteArray) (w : World) (hs : s.size ≤ 9223372036854775807) :
    Calls Tryz.prog 4 #[.string s] w fun e w' => e = .returned (.bool true) ∧ Below w.heap.size w w' := by
  obtain ⟨ks, s2, hr, hwd, hct⟩ := script_read s.data.toList
  have HS := Lib.hid (fun W => par.Script_any s W hs 1600024 100002 ks s2 (by omega) hr)
  clear hr
  go_enter Tryz.func4, Tryz.ntmps4
  go_wp2_with fail
  refine (HS.out _).mono ?_; rintro e w1 ht
  clear HS
  rw [TreeR] at ht
  by_cases hc : s2.code = 0
  · rw [if_pos hc] at ht
    obtain ⟨a, n, S, rfl, ⟨d, hk⟩, -, hb⟩ := ht
    have hk : KV 25 w1 (d + 1) (Nd.mk 8 [] 0 ks 0).kids (.slice a (Nd.mk 8 [] 0 ks 0).kids.length n) S := hk
    clear hc
    generalize Nd.mk 8 [] 0 ks 0 = x at *
    generalize d + 1 = d at *
    have HK := Lib.hid hk
    have HB := Lib.hid hb
    have HW := Lib.hid hwd
    have HC := Lib.hid hct
    have hlen := hwd.len
    clear hk hb hwd hct
    go_wp2_with fail
    refine (par.LendTree_any d x a n S _ (HK.out.below ((Below.refl _ _).alloc (Nat.le_refl _) _)) HW.out).mono ?_; rintro e w2 ⟨g, S', rfl, hl, -, hb2⟩
    have HI := Lib.hid (CI.start HB.out HK.out hl hb2)
    clear hl hb2 HK HB
    go_wp2_with fail
    generalize (w2.alloc (ndO x (.slice (some ⟨g, 0, none⟩) x.kids.length (x.kids.length + 1)))) = w3 at *
    generalize w2.heap.size = q at *
    generalize w1.heap.size = p at *
    have HC1 := Lib.hid (fun W hk => cScript_any x d (some ⟨g, 0, none⟩) (x.kids.length + 1) S' W hk)
    have HC2 := Lib.hid (fun W hk => rck.rScript_any d x a n S W hk HC.out)
    obtain ⟨r1, r2, hr⟩ : ∃ r1 r2 : Int, atOf (errOf (nodeP fnT x [])) = (r1, r2) := ⟨_, _, rfl⟩
    rw [hr] at HC1 HC2
    clear hr HC
    refine (HC1.out _ HI.out.yk.kv).mono ?_; rintro e w4 ⟨rfl, hb⟩
    have HI2 := Lib.hid (HI.out.below hb)
    clear hb HC1 HI
    have p0 := blk_cell (HI2.out.xb) 0
    have p1 := blk_cell (HI2.out.xb) 1
    have p2 := blk_cell (HI2.out.xb) 2
    have p3 := blk_cell (HI2.out.xb) 3
    have p4 := blk_cell (HI2.out.xb) 4
    have pf0 := blk_free (HI2.out.xb) 0
    have pf1 := blk_free (HI2.out.xb) 1
    have pf2 := blk_free (HI2.out.xb) 2
    have pf3 := blk_free (HI2.out.xb) 3
    have pf4 := blk_free (HI2.out.xb) 4
    have pl := blk_lt (HI2.out.xb)
    simp only [List.getElem?_toArray, List.getElem?_cons_zero, List.getElem?_cons_succ] at p0 p1 p2 p3 p4
    have q0 := blk_cell (HI2.out.yb) 0
    have q1 := blk_cell (HI2.out.yb) 1
    have q2 := blk_cell (HI2.out.yb) 2
    have q3 := blk_cell (HI2.out.yb) 3
    have q4 := blk_cell (HI2.out.yb) 4
    have qf0 := blk_free (HI2.out.yb) 0
    have qf1 := blk_free (HI2.out.yb) 1
    have qf2 := blk_free (HI2.out.yb) 2
    have qf3 := blk_free (HI2.out.yb) 3
    have qf4 := blk_free (HI2.out.yb) 4
    have ql := blk_lt (HI2.out.yb)
    simp only [List.getElem?_toArray, List.getElem?_cons_zero, List.getElem?_cons_succ] at q0 q1 q2 q3 q4
    go_wp2_with fail
    refine (HC2.out _ HI2.out.xk).mono ?_; rintro e w5 ⟨rfl, hb⟩
    have HI3 := Lib.hid (HI2.out.below hb)
    clear p0 p1 p2 p3 p4 pf0 pf1 pf2 pf3 pf4 pl
    clear q0 q1 q2 q3 q4 qf0 qf1 qf2 qf3 qf4 ql
    clear hb HC2 HI2
    have p0 := blk_cell (HI3.out.xb) 0
    have p1 := blk_cell (HI3.out.xb) 1
    have p2 := blk_cell (HI3.out.xb) 2
    have p3 := blk_cell (HI3.out.xb) 3
    have p4 := blk_cell (HI3.out.xb) 4
    have pf0 := blk_free (HI3.out.xb) 0
    have pf1 := blk_free (HI3.out.xb) 1
    have pf2 := blk_free (HI3.out.xb) 2
    have pf3 := blk_free (HI3.out.xb) 3
    have pf4 := blk_free (HI3.out.xb) 4
    have pl := blk_lt (HI3.out.xb)
    simp only [List.getElem?_toArray, List.getElem?_cons_zero, List.getElem?_cons_succ] at p0 p1 p2 p3 p4
    have q0 := blk_cell (HI3.out.yb) 0
    have q1 := blk_cell (HI3.out.yb) 1
    have q2 := blk_cell (HI3.out.yb) 2
    have q3 := blk_cell (HI3.out.yb) 3
    have q4 := blk_cell (HI3.out.yb) 4
    have qf0 := blk_free (HI3.out.yb) 0
    have qf1 := blk_free (HI3.out.yb) 1
    have qf2 := blk_free (HI3.out.yb) 2
    have qf3 := blk_free (HI3.out.yb) 3
    have qf4 := blk_free (HI3.out.yb) 4
    have ql := blk_lt (HI3.out.yb)
    simp only [List.getElem?_toArray, List.getElem?_cons_zero, List.getElem?_cons_succ] at q0 q1 q2 q3 q4
    go_wp2_with fail
    refine (Num_any _ _).mono ?_; rintro e w' ⟨rfl, rfl⟩
    go_wp2_with fail
    refine (par.kept_all d x a n g S S' _ HI3.out.yk HI3.out.xk hlen HW.out).mono ?_; rintro e w6 ⟨rfl, hb⟩
    have HI4 := Lib.hid (HI3.out.below hb)
    clear p0 p1 p2 p3 p4 pf0 pf1 pf2 pf3 pf4 pl
    clear q0 q1 q2 q3 q4 qf0 qf1 qf2 qf3 qf4 ql
    clear hb HI3
    go_wp2_with fail
    refine (awake_any _).mono ?_; rintro e w7 ⟨rfl, hb⟩
    have HI5 := Lib.hid (HI4.out.below hb)
    clear hb HI4
    go_wp2_with fail
    go_ret
    exact ⟨rfl, HI5.out.bel⟩
  · rw [if_neg hc] at ht
    obtain ⟨rfl, hb⟩ := ht
    have HB := Lib.hid hb
    have hcb : (s2.code != 0) = true := by simp [bne, hc]
    clear hb
    go_wp2_with fail
    refine (awake_any _).mono ?_; rintro e w2 ⟨rfl, hb⟩
    have HB2 := Lib.hid ((HB.out.alloc HB.out.size (ndO par.zero (.slice none 0 0))).trans (hb.mono (by have := HB.out.size; simp; omega)))
    go_wp2_with fail
    go_ret
    exact ⟨rfl, HB2.out⟩
end Go.Proofs.YtkcgldpedfafpaaGreat.chk
