/-
  Proved: what check.Recipe returns. Conditions: as each theorem says.
  Proved: the statements' own question whether there is a program that answers (awake); a script and a recipe read and checked. Conditions: as each theorem says.
  Proved: CheckArgs returns true. Conditions: as each theorem says.
-/
import Derived.Test.YtkcgldpedfafpaaPm27
import Derived.Test.YtkcgldpedfafpaaPm20
import Derived.Test.YtkcgldpedfafpaaPm19
namespace Go.Proofs.Ytkcgldpedfafpaa.chk
open Go.RowKit
open heap maps
open par (Nd KV Tr ndV ndC okStep okStage)
open lex (run_store_float)
open many (fnL fnT)
open path (cleanR sv)
set_option linter.unusedVariables false
set_option linter.unusedSimpArgs false
set_option maxRecDepth 100000
attribute [local go_sem] run_store_float

set_option maxHeartbeats 1000000 in
theorem look_recipe (R : Nd → Option (Int × Int)) (x : Nd) (d : Nat) (c : Value) (S : List Nat) (w : World) (hk : KV 28 w d x.kids c S)
    (hf : ∀ (g : Nat) (W : World), NdP W g 0 d x c S → Calls Try.prog 18 #[PA g 0] W (ThrowP (R x) W)) :
    Calls Try.prog 15 #[ndV x c, .func (.func 18) #[] #[]] w fun e w' => e = .returned (.tuple #[.int .i64 (atOf (R x)).1, .int .i64 (atOf (R x)).2]) ∧ Below w.heap.size w w' := by
  have HK := Lib.hid hk
  have HF := Lib.hid hf
  obtain ⟨a1, n1, rfl⟩ := hk.slice
  have hmf : ∀ (fn : Fn) (first cap : Array Value) (w : World), (Instr.makeFunc fn first cap).run Try.prog w = .ok (.func fn first cap) w := fun _ _ _ _ => rfl
  clear hk hf
  generalize R x = r at *
  go_enter_defers Try.func15, Try.ntmps15
  go_wp2_with fail
  have HB : Hid (Below w.heap.size w (lookW w x (.slice a1 x.kids.length n1))) := lookW_below w x _
  have HND : Hid (NdP (lookW w x (.slice a1 x.kids.length n1)) w.heap.size 0 d x (.slice a1 x.kids.length n1) S) := lookW_node w x _ d S HK.out
  have H4 := Lib.hid (lookW_at w x (.slice a1 x.kids.length n1))
  have H5 := Lib.hid (lookW_code w x (.slice a1 x.kids.length n1))
  change Calls _ _ _ (lookW w x (.slice a1 x.kids.length n1)) _
  generalize lookW w x (.slice a1 x.kids.length n1) = w1 at *
  cases r with
  | none =>
    refine (HF.out _ w1 HND.out).mono ?_
    intro e w2 hp
    obtain ⟨rfl, hb⟩ := hp
    have q4 := blk_below H4.out hb
    have q5 := blk_below H5.out hb
    have c4 := blk_cell q4 0
    have c5 := blk_cell q5 0
    have f4 := blk_free q4 0
    have f5 := blk_free q5 0
    simp only [List.getElem?_toArray, List.getElem?_cons_zero] at c4 c5
    have HB2 := Lib.hid (HB.out.trans (hb.mono HB.out.size))
    clear hb q4 q5
    go_wp2_with fail
    refine leaves_cons (f := 27) (args := #[.pointer (some ⟨w.heap.size + 1, 0, none⟩), .pointer (some ⟨w.heap.size + 1 + 1, 0, none⟩)]) (by simp) (by simp [go_sem]) ?_
    refine (look1_idle _ _ _).mono ?_
    rintro e u' w3 ⟨rfl, rfl, rfl⟩
    refine ⟨.tuple #[.int .i64 0, .int .i64 0], by simp [results, Try.results15, go_sem, c4, c5], rfl, (HB2.out.setCell (by simp) _).setCell (by simp; omega) _⟩
  | some p =>
    refine (HF.out _ w1 HND.out).mono ?_
    intro e w2 hp
    obtain ⟨rfl, hb⟩ := hp
    have q4 := blk_below H4.out hb
    have q5 := blk_below H5.out hb
    have HB2 := Lib.hid (HB.out.trans (hb.mono HB.out.size))
    clear hb
    go_wp2_with fail
    refine leaves_cons (f := 27) (args := #[.pointer (some ⟨w.heap.size + 1, 0, none⟩), .pointer (some ⟨w.heap.size + 1 + 1, 0, none⟩)]) (by simp) (by simp [go_sem]) ?_
    refine (look1_panic _ _ 0 0 p.1 p.2 w2 q4 q5 (by omega)).mono ?_
    rintro e u' w3 ⟨rfl, rfl, h4, h5, ht⟩
    have c4 := blk_cell h4 0
    have c5 := blk_cell h5 0
    simp only [List.getElem?_toArray, List.getElem?_cons_zero] at c4 c5
    refine ⟨.tuple #[.int .i64 p.1, .int .i64 p.2], by simp [results, Try.results15, go_sem, c4, c5], rfl, HB2.out.trans (ht.below HB2.out.size (by simp; omega))⟩
set_option maxHeartbeats 1000000 in
theorem cRecipe_any (x : Nd) (d : Nat) (a1 : Option Addr) (n1 : Nat) (S : List Nat) (w : World) (hk : KV 28 w d x.kids (.slice a1 x.kids.length n1) S) (hok : ∀ y ∈ x.kids, okStage y) (htx : ∀ y ∈ x.kids, ∀ z ∈ y.kids, txt1 z) :
    Calls Try.prog 10 #[ndV x (.slice a1 x.kids.length n1)] w fun e w' => e = .returned (.tuple #[.int .i64 (atOf (stagesF fnT okp 0 [] x.kids)).1, .int .i64 (atOf (stagesF fnT okp 0 [] x.kids)).2]) ∧ Below w.heap.size w w' := by
  have HK := Lib.hid (hk.upto (show d ≤ d + 4 by omega))
  have HF := Lib.hid (fun W hk => look_recipe (fun x => stagesF fnT okp 0 [] x.kids) x (d + 4) (.slice a1 x.kids.length n1) S W hk (fun g W hn => recipe_any x g 0 d _ S W hn hok htx))
  generalize stagesF fnT okp 0 [] x.kids = r at *
  clear hk hok htx
  go_enter Try.func10, Try.ntmps10
  go_wp2_with fail
  refine (HF.out _ (HK.out.below ((Below.refl _ _).alloc (Nat.le_refl _) _))).mono ?_; rintro e w1 ⟨rfl, hb⟩
  have HB := Lib.hid (((Below.refl w.heap.size w).alloc (Nat.le_refl _) (nodO x (.slice a1 x.kids.length n1))).trans (hb.mono (by simp)))
  clear hb
  go_wp2_with fail
  go_ret2
  exact ⟨rfl, HB.out⟩
end Go.Proofs.Ytkcgldpedfafpaa.chk

namespace Go.Proofs.Ytkcgldpedfafpaa.chk
open Go.RowKit
open heap maps
open par (Nd KV Tr ndV ndC okStep okStage stmtsR TreeR ms)
open lex (run_store_float)
open many (fnL fnT envOf st0 chkS recipeR shortS)
open path (cleanR sv)
set_option linter.unusedVariables false
set_option linter.unusedSimpArgs false
set_option maxRecDepth 100000
attribute [local go_sem] run_store_float

theorem Num_any (e : Int) (w : World) : Calls Try.prog 8 #[.int .i64 e] w fun e' w' => e' = .returned (.int .i64 e) ∧ w = w' := by
  go_enter Try.func8, Try.ntmps8
  go_wp2_with fail
  go_ret
  exact ⟨rfl, rfl⟩
/-- A script that is read; its first fault. -/
def ScrP (r : Int × Int) (w : World) (e : Ending) (w' : World) : Prop :=
  ∃ (x : Nd) (a : Option Addr) (n : Nat) (S : List Nat) (d : Nat), e = .returned (.tuple #[ndV x (.slice a x.kids.length n), .int .i64 0, .int .i64 0]) ∧ KV 28 w' d x.kids (.slice a x.kids.length n) S ∧ Below w.heap.size w w' ∧ atOf (errOf (nodeP fnT x [])) = r
theorem scr_any (l : List UInt8) (r : Int × Int) (w : World) (hs : l.length ≤ 1000000000) (h : chkS l 1600024 20 = some r) : Calls Try.prog 6 #[.string ⟨l.toArray⟩] w (ScrP r w) := by
  unfold chkS at h
  split at h
  · rename_i ks s hr
    split at h
    · rename_i hc
      refine (par.Script_any ⟨l.toArray⟩ w (by show l.toArray.size ≤ _; simpa using hs) 1600024 20 ks s (by omega) (by simpa using hr)).mono ?_
      intro e w' ht
      rw [TreeR, if_pos hc] at ht
      obtain ⟨a, n, S, rfl, ⟨d, hk⟩, -, hb⟩ := ht
      refine ⟨_, a, n, S, d + 1, rfl, hk, hb, ?_⟩
      split at h <;> rename_i hn <;> rw [hn] <;> exact Option.some.inj h
    · cases h
  · cases h
/-- A recipe that is read; its first fault. -/
def RecP (r : Int × Int) (w : World) (e : Ending) (w' : World) : Prop :=
  ∃ (x : Nd) (a : Option Addr) (n : Nat) (S : List Nat) (d : Nat), e = .returned (.tuple #[ndV x (.slice a x.kids.length n), .int .i64 0, .int .i64 0]) ∧ KV 28 w' d x.kids (.slice a x.kids.length n) S ∧ Below w.heap.size w w' ∧ (∀ y ∈ x.kids, okStage y) ∧ (∀ y ∈ x.kids, ∀ z ∈ y.kids, txt1 z) ∧ atOf (stagesF fnT okp 0 [] x.kids) = r
def chkC (l : List UInt8) (f n m : Nat) : Option (Int × Int) := match recipeR (envOf l) f n m st0 with
  | some (x, s) => if s.code = 0 then some (atOf (stagesF fnT okp 0 [] x.kids)) else none
  | none => none
theorem rec_any (l : List UInt8) (r : Int × Int) (w : World) (hs : l.length ≤ 1000000000) (hm : ms (envOf l) st0 ≤ 100001) (h : chkC l 1600024 100002 100002 = some r) : Calls Try.prog 9 #[.string ⟨l.toArray⟩] w (RecP r w) := by
  unfold chkC at h
  split at h
  · rename_i x s hr
    split at h
    · rename_i hc
      refine (par.Recipe_any ⟨l.toArray⟩ w (by show l.toArray.size ≤ _; simpa using hs) 1600024 100002 100002 x s (by omega) (by omega) (by simpa using hr)).mono ?_
      intro e w' ht
      rw [TreeR, if_pos hc] at ht
      obtain ⟨a, n, S, rfl, ⟨d, hk⟩, -, hb⟩ := ht
      refine ⟨x, a, n, S, d + 1, rfl, hk, hb, many.recipe_ok (by omega) (by omega) (by omega) hr hc, fun y hy z hz => ?_, Option.some.inj h⟩
      obtain ⟨h1, h2⟩ := many.recipe_short (many.env_short l) hr y hy z hz
      exact ⟨by omega, fun hk y hy => by have := h2 hk y hy; omega⟩
    · cases h
  · cases h
def awS : List UInt8 := [100, 111, 32, 110, 111, 116, 104, 105, 110, 103, 40, 49, 41, 59]
def awR : List UInt8 := [102, 114, 111, 109, 32, 34, 97, 34, 59, 32, 109, 107, 100, 105, 114, 32, 34, 98, 34, 59]
theorem awS_is : chkS awS 1600024 20 = some (3, 2001) := many.awake_doF
theorem awR_is : chkC awR 1600024 100002 100002 = some (0, 0) := by decide +kernel
theorem awR_ms : ms (envOf awR) st0 ≤ 100001 := by decide +kernel
set_option maxHeartbeats 1000000 in
theorem awake_any (w : World) : Calls Try.prog 5 #[] w fun e w' => e = .returned (.bool true) ∧ Below w.heap.size w w' := by
  have H1 := Lib.hid (fun W => scr_any awS (3, 2001) W (by decide) awS_is)
  have H2 := Lib.hid (fun W => rec_any awR (0, 0) W (by decide) awR_ms awR_is)
  go_enter Try.func5, Try.ntmps5
  go_wp2_with fail
  refine (H1.out _).mono ?_; rintro e w1 ⟨x, a, n, S, d, rfl, hk, hb, hr⟩
  have HC := Lib.hid (fun W hk => cScript_any x d a n S W hk)
  rw [hr] at HC
  have HK := Lib.hid hk
  have HB := Lib.hid hb
  clear hk hb hr H1
  go_wp2_with fail
  refine (HC.out _ (HK.out.below ((Below.refl _ _).alloc (Nat.le_refl _) _))).mono ?_; rintro e w2 ⟨rfl, hb⟩
  have HB2 := Lib.hid ((HB.out.alloc HB.out.size (nodO x (.slice a x.kids.length n))).trans (hb.mono (by have := HB.out.size; simp; omega)))
  clear hb HC HK HB
  go_wp2_with fail
  refine (H2.out _).mono ?_; rintro e w3 ⟨y, a2, n2, S2, d2, rfl, hk, hb, hok, htx, hr⟩
  have HC := Lib.hid (fun W hk => cRecipe_any y d2 a2 n2 S2 W hk hok htx)
  rw [hr] at HC
  have HK := Lib.hid hk
  have HB := Lib.hid (HB2.out.trans (hb.mono HB2.out.size))
  clear hk hb hr H2 hok htx
  go_wp2_with fail
  refine (HC.out _ (HK.out.below ((Below.refl _ _).alloc (Nat.le_refl _) _))).mono ?_; rintro e w4 ⟨rfl, hb⟩
  have HB4 := Lib.hid ((HB.out.alloc HB.out.size (nodO y (.slice a2 y.kids.length n2))).trans (hb.mono (by have := HB.out.size; simp; omega)))
  clear hb HC HK HB HB2
  go_wp2_with fail
  refine (Num_any _ _).mono ?_; rintro e w' ⟨rfl, rfl⟩
  go_wp2_with fail
  refine (Num_any _ _).mono ?_; rintro e w' ⟨rfl, rfl⟩
  go_wp2_with fail
  go_ret
  exact ⟨rfl, HB4.out⟩
end Go.Proofs.Ytkcgldpedfafpaa.chk

namespace Go.Proofs.Ytkcgldpedfafpaa.chk
open Go.RowKit
open heap maps
open par (Nd KV Tr ndV ndC okStep okStage stmtsR TreeR ms)
open lex (run_store_float)
open many (fnL fnT envOf st0 chkS recipeR shortS doT argsT)
set_option linter.unusedVariables false
set_option linter.unusedSimpArgs false
set_option maxRecDepth 100000
attribute [local go_sem] run_store_float

/-- The functions asked, each with how many arguments. -/
def askL : List (Nm × Nat) := fnL.map (fun x => (x.1, x.2.toNat)) ++ [([110, 111, 110, 101], 0)]
def askT (x : Nm × Nat) : Nm := x.1 ++ [UInt8.ofNat (48 + x.2)]
def askRow : Array Value := (askL.map fun y => Value.string ⟨(askT y).toArray⟩).toArray
theorem askL_len : ∀ y ∈ askL, y.1.length ≤ 20 ∧ y.2 ≤ 3 := by decide
theorem and3 (c : Int) : ∃ q : Nat, q < 4 ∧ bits .and .i64 c 3 = (q : Int) := by
  refine ⟨(BitVec.ofInt 64 c &&& BitVec.ofInt 64 3).toNat, ?_, ?_⟩
  · have h : (BitVec.ofInt 64 c &&& BitVec.ofInt 64 3).toNat ≤ (BitVec.ofInt 64 3).toNat := by
      rw [BitVec.toNat_and]; exact Nat.and_le_right
    have h2 : (BitVec.ofInt 64 3).toNat = 3 := by decide
    omega
  · have h : (BitVec.ofInt 64 c &&& BitVec.ofInt 64 3).toNat < 4 := by
      have h : (BitVec.ofInt 64 c &&& BitVec.ofInt 64 3).toNat ≤ (BitVec.ofInt 64 3).toNat := by
        rw [BitVec.toNat_and]; exact Nat.and_le_right
      have h2 : (BitVec.ofInt 64 3).toNat = 3 := by decide
      omega
    show IntKind.i64.wrap ((BitVec.ofInt 64 c &&& BitVec.ofInt 64 3).toNat : Int) = _
    generalize (BitVec.ofInt 64 c &&& BitVec.ofInt 64 3).toNat = q at *
    exact IntWalk.i64_in _ (by omega)
theorem bapp (a b : List UInt8) : (⟨a.toArray⟩ : ByteArray) ++ ⟨b.toArray⟩ = ⟨(a ++ b).toArray⟩ := by
  apply ByteArray.ext
  simp
theorem bext (a : List UInt8) (i : Nat) : (⟨a.toArray⟩ : ByteArray).extract 0 i = ⟨(a.take i).toArray⟩ := by
  apply ByteArray.ext
  simp [List.extract_eq_take_drop]
def noneT : Nm := [110, 111, 110, 101, 48]
def askB (y : Nm × Nat) (k : Nat) : Bool := if askT y = noneT then chkS (doT y.1 k) 1600024 20 == some (3, 2001) else if y.2 = k then chkS (doT y.1 k) 1600024 20 == some (0, 0) else chkS (doT y.1 k) 1600024 20 == some (3, 2003)
theorem ask_all : (askL.all fun y => (List.range 4).all fun k => askB y k) = true := by decide +kernel
theorem last_byte (y : Nm × Nat) (h : (askT y).length - 1 < (⟨(askT y).toArray⟩ : ByteArray).size) (h3 : y.2 ≤ 3) : (((⟨(askT y).toArray⟩ : ByteArray)[(askT y).length - 1]'h).toNat : Int) = 48 + y.2 := by
  have e : (⟨(askT y).toArray⟩ : ByteArray)[(askT y).length - 1]'h = UInt8.ofNat (48 + y.2) := by
    show (askT y).toArray[(askT y).length - 1]'h = _
    simp [askT]
  rw [e, UInt8.toNat_ofNat']
  omega
def preT (g : Nm) : Nm := [100, 111, 32] ++ g ++ [40]
set_option maxHeartbeats 2000000 in
theorem checkArgs_any (a b : Int) (w : World) :
    Calls Try.prog 3 #[.int .i64 a, .int .i64 b] w fun e w' => e = .returned (.bool true) ∧ Below w.heap.size w w' := by
  go_enter Try.func3, Try.ntmps3
  go_wp2_with fail
  refine (awake_any _).mono ?_; rintro e w1 ⟨rfl, hb⟩
  have HB := Lib.hid hb
  clear hb
  go_upto_region 4 with fail
  change Code.wp _ _ _ _ (w1.alloc (.cells askRow 9 (0, 0)))
  have hrow := blk_new w1 (.cells askRow 9 (0, 0))
  have hw0 : 0 ≤ IntKind.u64.wrap a := by unfold IntKind.wrap; simp [IntKind.bits, IntKind.signed]; omega
  obtain ⟨j, hj⟩ : ∃ j : Nat, IntKind.u64.wrap a % 23 = (j : Int) := ⟨(IntKind.u64.wrap a % 23).toNat, by omega⟩
  have hj23 : j < 23 := by omega
  have HB2 : Hid (Below w.heap.size w (w1.alloc (.cells askRow 9 (0, 0)))) := HB.out.alloc HB.out.size _
  obtain ⟨y, hy⟩ : ∃ y, askL[j]? = some y := ⟨_, List.getElem?_eq_getElem (by show j < 23; exact hj23)⟩
  have hc := blk_cell hrow j
  rw [show (askRow)[j]? = some (.string ⟨(askT y).toArray⟩) by unfold askRow; rw [List.getElem?_toArray, List.getElem?_map, hy]; rfl] at hc
  have hl := blk_lt hrow
  have HY := Lib.hid (List.mem_of_getElem? hy)
  clear hrow hy
  generalize w1.alloc (.cells askRow 9 (0, 0)) = w2 at *
  generalize w1.heap.size = br at *
  generalize hf : askT y = f at *
  have HF := Lib.hid hf
  clear hf
  go_upto_region 6 with fail
  clear hc hl hj hw0
  obtain ⟨k, hk4, hk⟩ := and3 b
  rw [hk]
  clear hk
  have hfl : 1 ≤ f.length ∧ f.length ≤ 1000 := by
    rw [← HF.out]
    have := askL_len y HY.out
    unfold askT
    rw [List.length_append, List.length_singleton]
    omega
  go_upto_region 7 with fail
  have hpre : (⟨#[100, 111, 32]⟩ : ByteArray) ++ (⟨f.toArray⟩ : ByteArray).extract 0 (f.length - 1) ++ ⟨#[40]⟩ = ⟨(preT y.1).toArray⟩ := by
    rw [← HF.out, bext, show (⟨#[100, 111, 32]⟩ : ByteArray) = ⟨[100, 111, 32].toArray⟩ from rfl, show (⟨#[40]⟩ : ByteArray) = ⟨[40].toArray⟩ from rfl, bapp, bapp]
    congr 2
    unfold askT preT
    rw [List.length_append, List.length_singleton, Nat.add_sub_cancel, List.take_left' rfl]
  rw [hpre]
  clear hpre
  have hg20 := (askL_len y HY.out).1
  go_wp2_with fail
  go_loopg [8, 9] k (fun kk v8 v9 wr => ∃ i : Nat, i + kk = k ∧ v8 = .string ⟨(preT y.1 ++ argsT i).toArray⟩ ∧ v9 = .int .i64 i ∧ wr = w2)
  case atStart => exact ⟨0, by omega, by rw [argsT, List.append_nil], rfl, rfl⟩
  case round =>
    obtain ⟨i, hik, rfl, rfl, rfl⟩ := hrel
    by_cases hlt : i < k
    · cases gk with
      | zero => omega
      | succ gk =>
      have hlen : (preT y.1 ++ argsT i).length ≤ 1000 := by
        have h3 : (argsT i).length ≤ 10 := by
          rcases (show i = 0 ∨ i = 1 ∨ i = 2 ∨ i = 3 by omega) with h | h | h | h <;> subst h <;> decide
        unfold preT
        simp only [List.length_append, List.length_cons, List.length_nil]
        omega
      have hn1 : preT y.1 ++ argsT (i + 1) = if i = 0 then (preT y.1 ++ argsT i) ++ [49] else ((preT y.1 ++ argsT i) ++ [44, 32]) ++ [49] := by
        cases i with
        | zero => simp [argsT]
        | succ i => simp [argsT]
      have HN1 := Lib.hid hn1
      clear hn1
      generalize preT y.1 ++ argsT i = q at *
      by_cases hi0 : i = 0
      · subst hi0
        go_wp2_with fail
        go_roundg gk
        case rel => exact ⟨1, by omega, by rw [HN1.out, if_pos trivial, ← bapp], rfl, rfl⟩
        case measure => omega
      · have hip : (0 : Int) < (i : Int) := by omega
        go_wp2_with fail
        go_roundg gk
        case rel => exact ⟨i + 1, by omega, by rw [HN1.out, if_neg hi0, ← bapp, ← bapp], by go_num, rfl⟩
        case measure => omega
    · have hik2 : i = k := by omega
      subst hik2
      have hlen : (preT y.1 ++ argsT i).length ≤ 1000 := by
        have h3 : (argsT i).length ≤ 10 := by
          rcases (show i = 0 ∨ i = 1 ∨ i = 2 ∨ i = 3 by omega) with h | h | h | h <;> subst h <;> decide
        unfold preT
        simp only [List.length_append, List.length_cons, List.length_nil]
        omega
      have hdo : (⟨(preT y.1 ++ argsT i).toArray⟩ : ByteArray) ++ ⟨#[41, 59]⟩ = ⟨(doT y.1 i).toArray⟩ := by
        rw [show (⟨#[41, 59]⟩ : ByteArray) = ⟨[41, 59].toArray⟩ from rfl, bapp]
        rfl
      have hdl : (doT y.1 i).length ≤ 1000000000 := by
        show (preT y.1 ++ argsT i ++ [41, 59]).length ≤ _
        rw [List.length_append]
        simp only [List.length_cons, List.length_nil]
        omega
      have hask : askB y i = true := List.all_eq_true.1 (List.all_eq_true.1 ask_all y HY.out) i (List.mem_range.2 hk4)
      have HDL := Lib.hid hdl
      have HASK := Lib.hid hask
      clear hdl hask
      generalize preT y.1 ++ argsT i = q at *
      go_wp2_with fail
      clear hdo
      have hask := HASK.out
      unfold askB at hask
      split at hask
      · rename_i hn
        have HSC := Lib.hid (fun W => scr_any (doT y.1 i) _ W HDL.out (eq_of_beq hask))
        clear hask
        obtain rfl : f = [110, 111, 110, 101, 48] := HF.out.symm.trans hn
        clear hn hfl
        refine (HSC.out _).mono ?_; rintro e w3 ⟨x, a3, n3, S3, d3, rfl, hk, hb, hr⟩
        have HC := Lib.hid (fun W hk => cScript_any x d3 a3 n3 S3 W hk)
        rw [hr] at HC
        have HK := Lib.hid hk
        have HB3 := Lib.hid (HB2.out.trans (hb.mono HB2.out.size))
        clear hk hb hr HSC
        go_wp2_with fail
        refine (HC.out _ (HK.out.below ((Below.refl _ _).alloc (Nat.le_refl _) _))).mono ?_; rintro e w4 ⟨rfl, hb⟩
        have HB4 := Lib.hid ((HB3.out.alloc HB3.out.size (nodO x (.slice a3 x.kids.length n3))).trans (hb.mono (by have := HB3.out.size; simp; omega)))
        clear hb HC HK HB3
        go_wp2_with fail
        refine (Num_any _ _).mono ?_; rintro e w' ⟨rfl, rfl⟩
        go_wp2_with fail
        go_ret
        exact ⟨rfl, HB4.out⟩
      · rename_i hn
        have hfn : ¬ f = [110, 111, 110, 101, 48] := fun e => hn (HF.out.trans e)
        have hfb : (f == [110, 111, 110, 101, 48]) = false := beq_eq_false_iff_ne.2 hfn
        clear hfn hn
        split at hask
        · have HSC := Lib.hid (fun W => scr_any (doT y.1 i) _ W HDL.out (eq_of_beq hask))
          clear hask
          refine (HSC.out _).mono ?_; rintro e w3 ⟨x, a3, n3, S3, d3, rfl, hk, hb, hr⟩
          have HC := Lib.hid (fun W hk => cScript_any x d3 a3 n3 S3 W hk)
          rw [hr] at HC
          have HK := Lib.hid hk
          have HB3 := Lib.hid (HB2.out.trans (hb.mono HB2.out.size))
          clear hk hb hr HSC
          go_wp2_with fail
          refine (HC.out _ (HK.out.below ((Below.refl _ _).alloc (Nat.le_refl _) _))).mono ?_; rintro e w4 ⟨rfl, hb⟩
          have HB4 := Lib.hid ((HB3.out.alloc HB3.out.size (nodO x (.slice a3 x.kids.length n3))).trans (hb.mono (by have := HB3.out.size; simp; omega)))
          clear hb HC HK HB3
          go_upto_region 17 with fail
          go_cut [76] from 68 to 76 (fun s76 wx => wx = w4 ∧ s76 = .bool (decide (¬ y.2 = i)))
          case first =>
            go_wp2_with fail
            go_meet
            refine ⟨rfl, ?_⟩
            obtain rfl : askT y = f := HF.out
            rw [last_byte y _ (askL_len y HY.out).2]
            have h3 := (askL_len y HY.out).2
            congr 1
            simp [*]
            omega
          case rest =>
            obtain ⟨rfl, rfl⟩ := hcut
            have hyi : decide (¬ y.2 = i) = false := by simp [*]
            go_wp2_with fail
            refine (Num_any _ _).mono ?_; rintro e w' ⟨rfl, rfl⟩
            go_wp2_with fail
            go_ret
            exact ⟨rfl, HB4.out⟩
        · have HSC := Lib.hid (fun W => scr_any (doT y.1 i) _ W HDL.out (eq_of_beq hask))
          clear hask
          refine (HSC.out _).mono ?_; rintro e w3 ⟨x, a3, n3, S3, d3, rfl, hk, hb, hr⟩
          have HC := Lib.hid (fun W hk => cScript_any x d3 a3 n3 S3 W hk)
          rw [hr] at HC
          have HK := Lib.hid hk
          have HB3 := Lib.hid (HB2.out.trans (hb.mono HB2.out.size))
          clear hk hb hr HSC
          go_wp2_with fail
          refine (HC.out _ (HK.out.below ((Below.refl _ _).alloc (Nat.le_refl _) _))).mono ?_; rintro e w4 ⟨rfl, hb⟩
          have HB4 := Lib.hid ((HB3.out.alloc HB3.out.size (nodO x (.slice a3 x.kids.length n3))).trans (hb.mono (by have := HB3.out.size; simp; omega)))
          clear hb HC HK HB3
          go_upto_region 17 with fail
          go_cut [76] from 68 to 76 (fun s76 wx => wx = w4 ∧ s76 = .bool (decide (¬ y.2 = i)))
          case first =>
            go_wp2_with fail
            go_meet
            refine ⟨rfl, ?_⟩
            obtain rfl : askT y = f := HF.out
            rw [last_byte y _ (askL_len y HY.out).2]
            have h3 := (askL_len y HY.out).2
            congr 1
            simp [*]
            omega
          case rest =>
            obtain ⟨rfl, rfl⟩ := hcut
            have hyi : decide (¬ y.2 = i) = true := by simp [*]
            go_wp2_with fail
            refine (Num_any _ _).mono ?_; rintro e w' ⟨rfl, rfl⟩
            go_wp2_with fail
            go_ret
            exact ⟨rfl, HB4.out⟩
end Go.Proofs.Ytkcgldpedfafpaa.chk
