/-
  Proved: what check.Script returns. Conditions: as each theorem says.
-/
import Derived.Test.YtkcgldpedfafpaaGreatPr26
namespace Go.Proofs.YtkcgldpedfafpaaGreat.chk
open Go.RowKit
open heap maps
open par (Nd KV Tr ndV ndC)
open lex (run_store_float)
open many (fnL fnT)
set_option linter.unusedVariables false
set_option linter.unusedSimpArgs false
set_option maxRecDepth 100000
attribute [local go_sem] run_store_float

/-- What a look at a tree leaves: it returns, or throws the fault. -/
def ThrowP (r : Option (Int × Int)) (w : World) (e : Ending) (w' : World) : Prop := match r with
 | none => e = .returned (.tuple #[]) ∧ Below w.heap.size w w'
 | some p => e = .panicked [{ v := wrongV p.1 p.2, recovered := false }] ∧ Below w.heap.size w w'
def errOf (r : Except (Int × Int) (List Nm)) : Option (Int × Int) := match r with
 | .ok _ => none
 | .error p => some p
set_option maxHeartbeats 1000000 in
theorem script_any (x : Nd) (g o d : Nat) (c : Value) (S : List Nat) (w : World) (hn : NdP w g o d x c S) :
  Calls Tryz.prog 24 #[PA g o] w (ThrowP (errOf (nodeP fnT x [])) w) := by
 have HN := Lib.hid hn
 have HFN := Lib.hid (fun W => functions_any W)
 have hmm := @run_makeMap_plain Tryz.prog
 clear hn
 go_enter Tryz.func24, Tryz.ntmps24
 go_wp2_with fail
 refine (HFN.out _).mono ?_; rintro e w1 ⟨mf, rfl, hmf, hge, hb⟩
 have HM0 : Hid (MapS w1 w.heap.size (setL [])) := (MapS.new w).turned (Turned.of_below (S := []) hb) (by simp)
 have HMF := Lib.hid hmf
 have HB1 : Hid (Below w.heap.size w w1) := ((Below.refl _ _).alloc (Nat.le_refl _) _).trans (hb.mono (by simp))
 have hne : w.heap.size ≠ mf := by simp at hge; omega
 have hs1 : w.heap.size < w1.heap.size := by have := hb.size; simp at this; omega
 clear hmf hge hb hmm
 go_wp2_with fail
 have HC : Hid (ChkP (w1.alloc (.cells #[.map (some w.heap.size), .map (some mf)] 75 (0, 0))) w1.heap.size w.heap.size mf []) :=
  ⟨blk_new _ _, HM0.out.turned ((Turned.refl [] _).alloc _) (by simp), HMF.out.turned ((Turned.refl [] _).alloc _) (by simp), hne⟩
 have HB2 : Hid (Below w.heap.size w (w1.alloc (.cells #[.map (some w.heap.size), .map (some mf)] 75 (0, 0)))) := HB1.out.alloc HB1.out.size _
 cases hr : nodeP fnT x [] with
 | ok s =>
  refine (node_all d x [] g o c S _ _ _ _ (HN.out.below HB2.out) HC.out).mono ?_
  intro e w2 hp
  rw [hr] at hp
  obtain ⟨rfl, -, ht⟩ := hp
  have HB3 : Hid (Below w.heap.size w w2) := HB2.out.trans (ht.below HB2.out.size (by simp))
  have HR := Lib.hid hr
  clear ht hr
  go_wp2_with fail
  go_end0
  rw [HR.out]
  exact ⟨rfl, HB3.out⟩
 | error p =>
  refine (node_all d x [] g o c S _ _ _ _ (HN.out.below HB2.out) HC.out).mono ?_
  intro e w2 hp
  rw [hr] at hp
  obtain ⟨rfl, -, ht⟩ := hp
  have HB3 : Hid (Below w.heap.size w w2) := HB2.out.trans (ht.below HB2.out.size (by simp))
  have HR := Lib.hid hr
  clear ht hr
  go_wp2_with fail
  refine ⟨rfl, ?_⟩
  exact ⟨rfl, HB3.out⟩
/-- What look returns. -/
def atOf (r : Option (Int × Int)) : Int × Int := r.getD (0, 0)
abbrev nodO (x : Nd) (c : Value) : Obj := .cells #[.int .i64 x.kind, .string ⟨x.text.toArray⟩, .float .f64 x.num, c, .int .i64 x.at'] 25 (0, 0)
/-- Where look stands ahead of its call. -/
def lookW (w : World) (x : Nd) (c : Value) : World := ((w.alloc (nodO x c)).alloc (.cells #[.int .i64 0] 3 (0, 0))).alloc (.cells #[.int .i64 0] 30 (0, 0))
theorem lookW_below (w : World) (x : Nd) (c : Value) : Below w.heap.size w (lookW w x c) := (((Below.refl _ _).alloc (Nat.le_refl _) _).alloc (by simp) _).alloc (by simp; omega) _
theorem lookW_blk (w : World) (x : Nd) (c : Value) : (lookW w x c).heap[w.heap.size]? = some (nodO x c) := blk_old (blk_old (blk_new _ _) _) _
theorem lookW_at (w : World) (x : Nd) (c : Value) : (lookW w x c).heap[w.heap.size + 1]? = some (.cells #[.int .i64 0] 3 (0, 0)) := by
 have := blk_new (w.alloc (nodO x c)) (.cells #[.int .i64 0] 3 (0, 0))
 have e : (w.alloc (nodO x c)).heap.size = w.heap.size + 1 := by simp
 rw [e] at this
 exact blk_old this _
theorem lookW_code (w : World) (x : Nd) (c : Value) : (lookW w x c).heap[w.heap.size + 1 + 1]? = some (.cells #[.int .i64 0] 30 (0, 0)) := by
 have := blk_new ((w.alloc (nodO x c)).alloc (.cells #[.int .i64 0] 3 (0, 0))) (.cells #[.int .i64 0] 30 (0, 0))
 have e : ((w.alloc (nodO x c)).alloc (.cells #[.int .i64 0] 3 (0, 0))).heap.size = w.heap.size + 1 + 1 := by simp
 rw [e] at this
 exact this
theorem lookW_node (w : World) (x : Nd) (c : Value) (d : Nat) (S : List Nat) (hk : KV 25 w d x.kids c S) : NdP (lookW w x c) w.heap.size 0 d x c S := by
 have h := lookW_blk w x c
 exact ⟨by rw [blk_cell h]; rfl, by rw [blk_cell h]; rfl, by rw [blk_cell h]; rfl, by rw [blk_cell h]; rfl, by rw [blk_cell h]; rfl, hk.below (lookW_below w x c)⟩
set_option maxHeartbeats 1000000 in
theorem look_script (R : Nd → Option (Int × Int)) (x : Nd) (d : Nat) (c : Value) (S : List Nat) (w : World) (hk : KV 25 w d x.kids c S)
  (hf : ∀ (g : Nat) (W : World), NdP W g 0 d x c S → Calls Tryz.prog 24 #[PA g 0] W (ThrowP (R x) W)) :
  Calls Tryz.prog 18 #[ndV x c, .func (.func 24) #[] #[]] w fun e w' => e = .returned (.tuple #[.int .i64 (atOf (R x)).1, .int .i64 (atOf (R x)).2]) ∧ Below w.heap.size w w' := by
 have HK := Lib.hid hk
 have HF := Lib.hid hf
 obtain ⟨a1, n1, rfl⟩ := hk.slice
 have hmf : ∀ (fn : Fn) (first cap : Array Value) (w : World), (Instr.makeFunc fn first cap).run Tryz.prog w = .ok (.func fn first cap) w := fun _ _ _ _ => rfl
 clear hk hf
 generalize R x = r at *
 go_enter_defers Tryz.func18, Tryz.ntmps18
 go_wp2_with fail
 have HB : Hid (Below w.heap.size w (lookW w x (.slice a1 x.kids.length n1))) := lookW_below w x _
 have HND : Hid (NdP (lookW w x (.slice a1 x.kids.length n1)) w.heap.size 0 d x (.slice a1 x.kids.length n1) S) := lookW_node w x _ d S HK.out
 have H4 := Lib.hid (lookW_at w x (.slice a1 x.kids.length n1))
 have H5 := Lib.hid (lookW_code w x (.slice a1 x.kids.length n1))
 change Calls _ _ _ (lookW w x (.slice a1 x.kids.length n1)) _
 generalize lookW w x (.slice a1 x.kids.length n1) = w1 at *
 cases r with
 | none =>
  refine (HF.out _ w1 HND.out).mono ?_
  intro e w2 hp
  obtain ⟨rfl, hb⟩ := hp
  have q4 := blk_below H4.out hb
  have q5 := blk_below H5.out hb
  have c4 := blk_cell q4 0
  have c5 := blk_cell q5 0
  have f4 := blk_free q4 0
  have f5 := blk_free q5 0
  simp only [List.getElem?_toArray, List.getElem?_cons_zero] at c4 c5
  have HB2 := Lib.hid (HB.out.trans (hb.mono HB.out.size))
  clear hb q4 q5
  go_wp2_with fail
  refine leaves_cons (f := 34) (args := #[.pointer (some ⟨w.heap.size + 1, 0, none⟩), .pointer (some ⟨w.heap.size + 1 + 1, 0, none⟩)]) (by simp) (by simp [go_sem]) ?_
  refine (look1_idle _ _ _).mono ?_
  rintro e u' w3 ⟨rfl, rfl, rfl⟩
  refine ⟨.tuple #[.int .i64 0, .int .i64 0], by simp [results, Tryz.results18, go_sem, c4, c5], rfl, (HB2.out.setCell (by simp) _).setCell (by simp; omega) _⟩
 | some p =>
  refine (HF.out _ w1 HND.out).mono ?_
  intro e w2 hp
  obtain ⟨rfl, hb⟩ := hp
  have q4 := blk_below H4.out hb
  have q5 := blk_below H5.out hb
  have HB2 := Lib.hid (HB.out.trans (hb.mono HB.out.size))
  clear hb
  go_wp2_with fail
  refine leaves_cons (f := 34) (args := #[.pointer (some ⟨w.heap.size + 1, 0, none⟩), .pointer (some ⟨w.heap.size + 1 + 1, 0, none⟩)]) (by simp) (by simp [go_sem]) ?_
  refine (look1_panic _ _ 0 0 p.1 p.2 w2 q4 q5 (by omega)).mono ?_
  rintro e u' w3 ⟨rfl, rfl, h4, h5, ht⟩
  have c4 := blk_cell h4 0
  have c5 := blk_cell h5 0
  simp only [List.getElem?_toArray, List.getElem?_cons_zero] at c4 c5
  refine ⟨.tuple #[.int .i64 p.1, .int .i64 p.2], by simp [results, Tryz.results18, go_sem, c4, c5], rfl, HB2.out.trans (ht.below HB2.out.size (by simp; omega))⟩
set_option maxHeartbeats 1000000 in
theorem cScript_any (x : Nd) (d : Nat) (a1 : Option Addr) (n1 : Nat) (S : List Nat) (w : World) (hk : KV 25 w d x.kids (.slice a1 x.kids.length n1) S) :
  Calls Tryz.prog 13 #[ndV x (.slice a1 x.kids.length n1)] w fun e w' => e = .returned (.tuple #[.int .i64 (atOf (errOf (nodeP fnT x []))).1, .int .i64 (atOf (errOf (nodeP fnT x []))).2]) ∧ Below w.heap.size w w' := by
 have HK := Lib.hid hk
 have HF := Lib.hid (fun W hk => look_script (fun x => errOf (nodeP fnT x [])) x d (.slice a1 x.kids.length n1) S W hk (fun g W hn => script_any x g 0 d _ S W hn))
 generalize errOf (nodeP fnT x []) = r at *
 clear hk
 go_enter Tryz.func13, Tryz.ntmps13
 go_wp2_with fail
 refine (HF.out _ (HK.out.below ((Below.refl _ _).alloc (Nat.le_refl _) _))).mono ?_; rintro e w1 ⟨rfl, hb⟩
 have HB := Lib.hid (((Below.refl w.heap.size w).alloc (Nat.le_refl _) (nodO x (.slice a1 x.kids.length n1))).trans (hb.mono (by simp)))
 clear hb
 go_wp2_with fail
 go_ret2
 exact ⟨rfl, HB.out⟩
end Go.Proofs.YtkcgldpedfafpaaGreat.chk
