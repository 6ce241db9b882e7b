/-
  Proved: what the checker's node does at a function, at a statement that sets. Conditions: as each theorem says.
-/
import Derived.Test.YtkcgldpedfafpaaGreatPr25
namespace Go.Proofs.YtkcgldpedfafpaaGreat.chk
open Go.RowKit
open heap maps
open par (Nd KV Tr ndV ndC)
open lex (run_store_float)
open many (fnL fnT)
set_option linter.unusedVariables false
set_option linter.unusedSimpArgs false
set_option maxRecDepth 100000
attribute [local go_sem] run_store_float

theorem look_fn_val (t : Nm) : ((maps.look t fnV 0).map (·.2)).getD (.int .i64 0) = .int .i64 ((fnT t).getD 0) := by
 have := look_fn t fnL 0
 have h2 : (maps.look t fnV 0).map (·.2) = (fnT t).map (Value.int .i64 ·) := this
 rw [h2]
 cases fnT t <;> rfl
set_option maxHeartbeats 1000000 in
theorem node_ask {d : Nat} (IH : NodeAt d) (x : Nd) (set : List Nm) (g o : Nat) (c : Value) (S : List Nat) (q ms mf : Nat) (w : World) (hn : NdP w g o (d + 1) x c S) (hc : ChkP w q ms mf set) (k2 : x.kind = 19) :
  Calls Tryz.prog 42 #[PA q 0, PA g o] w (NodeP (nodeP fnT x set) q ms mf w) := by
 have HN := Lib.hid hn
 have HC := Lib.hid hc
 have hfz : faultOf fnT x.kind x.text x.kids.length set = match fnT x.text with
  | none => 2001
  | some n => if n ≠ x.kids.length then 2003 else 0 := by unfold faultOf; rw [if_neg (by rw [k2]; decide), if_neg (by rw [k2]; decide), if_pos k2]; cases fnT x.text <;> rfl
 have HAF : Hid (∀ s, after x.kind x.text s = s) := fun s => by unfold after; rw [if_neg (fun h => by rw [k2] at h; exact absurd h.1 (by decide))]
 obtain ⟨c0, c1, -, c3, c4, kv⟩ := hn
 obtain ⟨a1, n1, rfl⟩ := kv.slice
 have gl := World.block_lt_of_cell? w _ c0
 rw [k2] at c0
 clear hc k2 kv
 go_enter_defers Tryz.func42, Tryz.ntmps42
 go_upto_region 8 with fail
 have HFZ := Lib.hid hfz
 have hb1 : Below w.heap.size w ((w.alloc (.cells #[PA q 0] 71)).alloc (.cells #[PA g o] 65)) := ((Below.refl _ _).alloc (Nat.le_refl _) _).alloc (by simp) _
 have HN1 := Lib.hid (HN.out.below hb1)
 have HC1 := Lib.hid (HC.out.below hb1)
 have HB1 := Lib.hid (Turned.of_below (S := [ms]) hb1)
 have HX1 := Lib.hid (blk_old (blk_new w (.cells #[PA q 0] 71)) (.cells #[PA g o] 65))
 have HY1 : Hid (((w.alloc (.cells #[PA q 0] 71)).alloc (.cells #[PA g o] 65)).heap[w.heap.size + 1]? = some (.cells #[PA g o] 65)) := by
  have := blk_new (w.alloc (.cells #[PA q 0] 71)) (.cells #[PA g o] 65)
  unfold Hid
  simpa using this
 clear hb1 hfz c0 c1 c3 c4 gl
 generalize ((w.alloc (.cells #[PA q 0] 71)).alloc (.cells #[PA g o] 65)) = w1 at *
 generalize w.heap.size + 1 = bn at *
 obtain ⟨bc, hbc⟩ : ∃ bc, bc = w.heap.size := ⟨_, rfl⟩
 rw [← hbc] at HX1
 rw [← hbc]
 have HBC := Lib.hid hbc
 clear hbc
 have x0 := blk_cell HX1.out 0
 have y0 := blk_cell HY1.out 0
 have xl := blk_lt HX1.out
 have yl := blk_lt HY1.out
 simp only [List.getElem?_toArray, List.getElem?_cons_zero] at x0 y0
 obtain ⟨c0, c1, -, c3, c4, -⟩ := HN1.out
 have gl := World.block_lt_of_cell? w1 _ c0
 have qc0 := blk_cell HC1.out.blk 0
 have qc1 := blk_cell HC1.out.blk 1
 have ql := blk_lt HC1.out.blk
 simp only [List.getElem?_toArray, List.getElem?_cons_zero, List.getElem?_cons_succ] at qc0 qc1
 have hlk := run_lookup_ok (P := Tryz.prog) (w := w1.drew) (HC1.out.below (Below.refl _ _).drew).fns Tryz.underlying72 Tryz.underlying9 (.int .i64 0) (by kernel_rfl) x.text
 rw [look_fn_val, look_fn_some] at hlk
 generalize fnT x.text = fr at *
 go_still (by kernel_rfl)
 clear hlk
 clear x0 y0 xl yl c0 c1 c3 c4 gl qc0 qc1 ql
 change Exit.then _ _ _ _ w1.drew
 have HXd : Hid (w1.drew.heap[bc]? = some (.cells #[PA q 0] 71 (0, 0))) := HX1.out
 have HYd : Hid (w1.drew.heap[bn]? = some (.cells #[PA g o] 65 (0, 0))) := HY1.out
 have HNd := Lib.hid (HN1.out.below (Below.refl _ _).drew)
 have HCd := Lib.hid (HC1.out.below (Below.refl _ _).drew)
 have HTd : Hid (Turned [ms] w1 w1.drew) := (Turned.refl _ _).drew
 generalize w1.drew = wd at *
 have x0 := blk_cell HXd.out 0
 have y0 := blk_cell HYd.out 0
 have xl := blk_lt HXd.out
 have yl := blk_lt HYd.out
 simp only [List.getElem?_toArray, List.getElem?_cons_zero] at x0 y0
 obtain ⟨c0, c1, -, c3, c4, -⟩ := HNd.out
 have gl := World.block_lt_of_cell? wd _ c0
 have qc0 := blk_cell HCd.out.blk 0
 have qc1 := blk_cell HCd.out.blk 1
 have ql := blk_lt HCd.out.blk
 simp only [List.getElem?_toArray, List.getElem?_cons_zero, List.getElem?_cons_succ] at qc0 qc1
 cases fr with
 | none =>
  have HE : Hid (nodeP fnT x set = .error (x.at', 2001)) := by
   have h : faultOf fnT x.kind x.text x.kids.length set = 2001 := HFZ.out
   unfold Hid
   rw [node_fault _ _ _ (by rw [h]; decide), h]
  go_wp2_with fail
  refine (fail_yes _ _ _).mono ?_; rintro e w' ⟨rfl, rfl⟩
  go_wp2_with fail
  change NodeP (nodeP fnT x set) q ms mf w (.panicked _) wd
  rw [HE.out]
  exact ⟨rfl, ⟨_, HCd.out⟩, HB1.out.trans HTd.out⟩
 | some n =>
  go_wp2_with fail
  refine (fail_no _ _ _).mono ?_; rintro e w' ⟨rfl, rfl⟩
  go_wp2_with fail
  by_cases hnk : n = x.kids.length
  ·have hnb : (n != (x.kids.length : Int)) = false := by simp [hnk]
   have HFZ0 : Hid (faultOf fnT x.kind x.text x.kids.length set = 0) := by
    have h : faultOf fnT x.kind x.text x.kids.length set = if n ≠ x.kids.length then 2003 else 0 := HFZ.out
    unfold Hid
    rw [h, if_neg (by simp [hnk])]
   clear HFZ
   have HFZ := HFZ0
   clear HFZ0 hnk
   go_still_tail 11, (by kernel_rfl)
   change wpList _ _ _ _ _ wd.drew
   go_wp2_with fail
   refine (fail_no _ _ _).mono ?_; rintro e w' ⟨rfl, rfl⟩
   have HC2 := Lib.hid (HCd.out.below (Below.refl _ _).drew)
   have HT2 : Hid (Turned [ms] w1 wd.drew) := HTd.out.drew
   go_wp2_with fail
   clear x0 y0 xl yl c0 c1 c3 c4 gl qc0 qc1 ql
   clear hnb
   go_loopw [92, 6] (fun v92 v6 wr => ∃ (j : Nat) (s' : List Nm), j ≤ x.kids.length ∧ v92 = .int .i64 j ∧ Hid (kidsP fnT (x.kids.take j) set = .ok s' ∧ ChkP wr q ms mf s' ∧ Turned [ms] w1 wr)) (fun v92 _ _ => x.kids.length - (intOf v92).toNat)
   case atStart => exact ⟨0, set, Nat.zero_le _, rfl, by simp [kidsP], HC2.out, HT2.out⟩
   case round =>
    obtain ⟨j, s', hj, rfl, HK⟩ := hrel
    have HNr := Lib.hid (HN1.out.turned HK.out.2.2 HC1.out.st)
    have hx1 := HK.out.2.2.kept HX1.out (by simp; exact map_blk HX1.out HC1.out.st)
    have hy1 := HK.out.2.2.kept HY1.out (by simp; exact map_blk HY1.out HC1.out.st)
    have x0 := blk_cell hx1 0
    have y0 := blk_cell hy1 0
    have xl := blk_lt hx1
    have yl := blk_lt hy1
    simp only [List.getElem?_toArray, List.getElem?_cons_zero] at x0 y0
    have n3 := HNr.out.c3
    have ngl := World.block_lt_of_cell? wr _ n3
    clear hx1 hy1
    by_cases hlt : j < x.kids.length
    ·obtain ⟨y, hy⟩ : ∃ y, x.kids[j]? = some y := ⟨_, List.getElem?_eq_getElem hlt⟩
     obtain ⟨g', c', S', hag, hny, hn1, hn2⟩ := HNr.out.kid hy
     subst hag
     have hjI : (j : Int) < (x.kids.length : Int) := by omega
     have hKT := kids_take fnT x.kids j y set s' hy HK.out.1
     have HKT := Lib.hid hKT
     have HIH := Lib.hid (fun W h1 h2 => IH y s' g' (j * 5) c' S' q ms mf W h1 h2)
     have HNY := Lib.hid hny
     unfold maxLen at hn2
     clear hKT hny hy
     go_wp2_with fail
     go_still_tail 7, (by kernel_rfl)
     change wpList _ _ _ _ _ wr.drew
     have HNYd : Hid (NdP wr.drew g' (j * 5) d y c' S') := HNY.out.below (Below.refl _ _).drew
     have HCd : Hid (ChkP wr.drew q ms mf s') := HK.out.2.1.below (Below.refl _ _).drew
     have HTd : Hid (Turned [ms] w1 wr.drew) := HK.out.2.2.drew
     clear HNY x0 y0 n3 xl yl ngl
     generalize wr.drew = wd at *
     cases hne : nodeP fnT y s' with
     | ok s2 =>
      go_wp2_with fail
      refine (HIH.out _ HNYd.out HCd.out).mono ?_
      intro e w2 hpost
      rw [hne] at hpost
      obtain ⟨rfl, hc2, ht2⟩ := hpost
      have HR : Hid (kidsP fnT (x.kids.take (j + 1)) set = .ok s2 ∧ ChkP w2 q ms mf s2 ∧ Turned [ms] w1 w2) := ⟨by rw [HKT.out.1, hne], hc2, HTd.out.trans ht2⟩
      clear hc2 ht2 hne HKT HIH HNYd HCd HTd HK
      go_wp2_with fail
      go_roundw
      case rel => exact ⟨j + 1, s2, by omega, by go_num, HR⟩
      case measure => simp [intOf]; omega
     | error r =>
      go_wp2_with fail
      refine (HIH.out _ HNYd.out HCd.out).mono ?_
      intro e w2 hpost
      rw [hne] at hpost
      obtain ⟨rfl, ⟨s9, hc9⟩, ht2⟩ := hpost
      have HC9 := Lib.hid hc9
      clear hc9
      have HE : Hid (nodeP fnT x set = .error r) := by unfold Hid; rw [kids_all _ _ _ HFZ.out, HKT.out.2 r hne]
      have HT2 := Lib.hid (HTd.out.trans ht2)
      clear ht2 hne HKT HIH HNYd HTd
      go_wp2_with fail
      change NodeP (nodeP fnT x set) q ms mf w (.panicked _) w2
      rw [HE.out]
      exact ⟨rfl, ⟨_, HC9.out⟩, HB1.out.trans HT2.out⟩
    ·have hd : j = x.kids.length := by omega
     have HE : Hid (nodeP fnT x set = .ok (after x.kind x.text s')) := by unfold Hid; rw [kids_all _ _ _ HFZ.out]; have := HK.out.1; rw [hd, List.take_length] at this; rw [this]
     have hjI : ¬ (j : Int) < (x.kids.length : Int) := by omega
     go_wp2_with fail
     refine ⟨.tuple #[], by simp [results, Tryz.results42], ?_⟩
     rw [HE.out, HAF.out]
     exact ⟨rfl, HK.out.2.1, HB1.out.trans HK.out.2.2⟩
  ·have hnb : (n != (x.kids.length : Int)) = true := by simp [bne, hnk]
   have HE : Hid (nodeP fnT x set = .error (x.at', 2003)) := by
    have h : faultOf fnT x.kind x.text x.kids.length set = if n ≠ x.kids.length then 2003 else 0 := HFZ.out
    rw [if_pos hnk] at h
    unfold Hid
    rw [node_fault _ _ _ (by rw [h]; decide), h]
   clear hnk
   go_still_tail 11, (by kernel_rfl)
   change wpList _ _ _ _ _ wd.drew
   go_wp2_with fail
   refine (fail_yes _ _ _).mono ?_; rintro e w' ⟨rfl, rfl⟩
   go_wp2_with fail
   change NodeP (nodeP fnT x set) q ms mf w (.panicked _) wd.drew
   rw [HE.out]
   exact ⟨rfl, ⟨_, HCd.out.below (Below.refl _ _).drew⟩, HB1.out.trans HTd.out.drew⟩
set_option maxHeartbeats 1000000 in
theorem node_set {d : Nat} (IH : NodeAt d) (x : Nd) (set : List Nm) (g o : Nat) (c : Value) (S : List Nat) (q ms mf : Nat) (w : World) (hn : NdP w g o (d + 1) x c S) (hc : ChkP w q ms mf set) (k2 : x.kind = 9) :
  Calls Tryz.prog 42 #[PA q 0, PA g o] w (NodeP (nodeP fnT x set) q ms mf w) := by
 have HN := Lib.hid hn
 have HC := Lib.hid hc
 have hfz : faultOf fnT x.kind x.text x.kids.length set = if set.contains x.text = false ∧ 32 ≤ set.length then 2004 else 0 := by unfold faultOf; rw [if_pos k2]
 have HAF : Hid (∀ s, after x.kind x.text s = addN s x.text) := fun s => by
  unfold after addN
  cases h : s.contains x.text
  ·rw [if_pos ⟨k2, rfl⟩]; rfl
  ·rw [if_neg (by simp)]; rfl
 obtain ⟨c0, c1, -, c3, c4, kv⟩ := hn
 obtain ⟨a1, n1, rfl⟩ := kv.slice
 have gl := World.block_lt_of_cell? w _ c0
 have hmf : ∀ (fn : Fn) (first cap : Array Value) (w : World), (Instr.makeFunc fn first cap).run Tryz.prog w = .ok (.func fn first cap) w := fun _ _ _ _ => rfl
 rw [k2] at c0
 clear hc k2 kv
 go_enter_defers Tryz.func42, Tryz.ntmps42
 go_upto_region 3 with fail
 have HFZ := Lib.hid hfz
 have hb1 : Below w.heap.size w ((w.alloc (.cells #[PA q 0] 71)).alloc (.cells #[PA g o] 65)) := ((Below.refl _ _).alloc (Nat.le_refl _) _).alloc (by simp) _
 have HN1 := Lib.hid (HN.out.below hb1)
 have HC1 := Lib.hid (HC.out.below hb1)
 have HB1 := Lib.hid (Turned.of_below (S := [ms]) hb1)
 have HX1 := Lib.hid (blk_old (blk_new w (.cells #[PA q 0] 71)) (.cells #[PA g o] 65))
 have HY1 : Hid (((w.alloc (.cells #[PA q 0] 71)).alloc (.cells #[PA g o] 65)).heap[w.heap.size + 1]? = some (.cells #[PA g o] 65)) := by
  have := blk_new (w.alloc (.cells #[PA q 0] 71)) (.cells #[PA g o] 65)
  unfold Hid
  simpa using this
 clear hb1 hfz c0 c1 c3 c4 gl
 generalize ((w.alloc (.cells #[PA q 0] 71)).alloc (.cells #[PA g o] 65)) = w1 at *
 generalize w.heap.size + 1 = bn at *
 obtain ⟨bc, hbc⟩ : ∃ bc, bc = w.heap.size := ⟨_, rfl⟩
 rw [← hbc] at HX1
 rw [← hbc]
 have HBC := Lib.hid hbc
 clear hbc
 have x0 := blk_cell HX1.out 0
 have y0 := blk_cell HY1.out 0
 have xl := blk_lt HX1.out
 have yl := blk_lt HY1.out
 simp only [List.getElem?_toArray, List.getElem?_cons_zero] at x0 y0
 obtain ⟨c0, c1, -, c3, c4, -⟩ := HN1.out
 have gl := World.block_lt_of_cell? w1 _ c0
 have qc0 := blk_cell HC1.out.blk 0
 have qc1 := blk_cell HC1.out.blk 1
 have ql := blk_lt HC1.out.blk
 simp only [List.getElem?_toArray, List.getElem?_cons_zero, List.getElem?_cons_succ] at qc0 qc1
 have hlk := run_lookup (P := Tryz.prog) (w := w1.drew) (HC1.out.below (Below.refl _ _).drew).st Tryz.underlying66 Tryz.underlying9 (.bool false) (by kernel_rfl) x.text
 rw [look_set] at hlk
 generalize hbb : set.contains x.text = b at *
 have HBB := Lib.hid hbb
 clear hbb
 cases b with
 | true =>
  have HFZ0 : Hid (faultOf fnT x.kind x.text x.kids.length set = 0) := by have h := HFZ.out; unfold Hid; simpa using h
  clear HFZ
  have HFZ := HFZ0
  clear HFZ0
  have hlk2 : ∀ w', w'.heap[ms]? = w1.heap[ms]? → (Instr.lookup 66 (.map (some ms)) (.string ⟨x.text.toArray⟩) false).run Tryz.prog w' = .ok (.bool true) w' := fun w' h => by
   have := run_lookup (P := Tryz.prog) (w := w') (HC1.out.st.kept h) Tryz.underlying66 Tryz.underlying9 (.bool false) (by kernel_rfl) x.text
   rw [look_set, HBB.out] at this
   exact this
  have HLK := Lib.hid hlk2
  have hml := HC1.out.st.lt
  clear hlk hlk2
  refine reg.region_each (by kernel_rfl) reg.Ext (fun ri v w' => match ri with
    | 0 => v = PA q 0
    | 1 => v = PA q 0
    | 2 => v = .pointer (some ⟨q, 0, none⟩)
    | 3 => v = .map (some ms)
    | 4 => v = PA g o
    | 5 => v = PA g o
    | 6 => v = .pointer (some ⟨g, o + 1, none⟩)
    | 7 => v = .string ⟨x.text.toArray⟩
    | 8 => v = .bool true
    | 9 => v = .bool false
    | 10 => v = .bool false
    | 11 => v = undef
    | 12 => v = undef
    | 13 => v = undef
    | 14 => v = undef
    | 15 => v = undef
    | 16 => v = undef
    | 17 => v = .bool false
    | 18 => v = PA g o
    | 19 => v = PA g o
    | 20 => v = .pointer (some ⟨g, o + 4, none⟩)
    | 21 => v = .int .i64 x.at'
    | 22 => v = .tuple #[]
    | _ => True) reg.Ext.refl reg.Ext.trans ?_ (by kernel_rfl) ?_ ?_
  ·
   intro i v w1 w2 h hx
   rcases i with _|_|_|_|_|_|_|_|_|_|_|_|_|_|_|_|_|_|_|_|_|_|_|i
   ·exact h
   ·exact h
   ·exact h
   ·exact h
   ·exact h
   ·exact h
   ·exact h
   ·exact h
   ·exact h
   ·exact h
   ·exact h
   ·exact h
   ·exact h
   ·exact h
   ·exact h
   ·exact h
   ·exact h
   ·exact h
   ·exact h
   ·exact h
   ·exact h
   ·exact h
   ·exact h
   ·trivial
  ·
   refine ⟨?_, ?_, ?_, ?_, ?_, ?_, ?_, ?_, ?_, ?_, ?_, ?_, ?_, ?_, ?_, ?_, ?_, ?_, ?_, ?_, ?_, ?_, ?_, trivial⟩
   ·-- 0: slot 13 := Op.load 71 t2
    intro ra w' hx hs
    have s2 : ra.eval (.tmp 2) = .pointer (some ⟨bc, 0, none⟩) := hs.1
    clear hs
    have x0 := hx.cell x0
    have y0 := hx.cell y0
    have qc0 := hx.cell qc0
    have c1 := hx.cell c1
    have c4 := hx.cell c4
    have hlk := HLK.out w' (hx.block ms hml)
    change Oper.wp _ _ ra w' _ _
    refine reg.wp_value (v := PA q 0) (w' := w') ?_ ⟨_, rfl, reg.Ext.refl _, rfl⟩
    intro ρ rc rf rg re
    rw [re] at s2
    simp [execOp, go_sem, rc, rf, rg, s2, x0] <;> first | omega | rfl | decide
   ·-- 1: slot 14 := Op.nilCheck t13
    intro ra w' hx hs
    have s13 : ra.eval (.tmp 13) = PA q 0 := hs.1
    clear hs
    have x0 := hx.cell x0
    have y0 := hx.cell y0
    have qc0 := hx.cell qc0
    have c1 := hx.cell c1
    have c4 := hx.cell c4
    have hlk := HLK.out w' (hx.block ms hml)
    change Oper.wp _ _ ra w' _ _
    refine reg.wp_value (v := PA q 0) (w' := w') ?_ ⟨_, rfl, reg.Ext.refl _, rfl⟩
    intro ρ rc rf rg re
    rw [re] at s13
    simp [execOp, go_sem, rc, rf, rg, s13] <;> first | omega | rfl | decide
   ·-- 2: slot 15 := Op.fieldAddr 75 t14 0
    intro ra w' hx hs
    have s14 : ra.eval (.tmp 14) = PA q 0 := hs.1
    clear hs
    have x0 := hx.cell x0
    have y0 := hx.cell y0
    have qc0 := hx.cell qc0
    have c1 := hx.cell c1
    have c4 := hx.cell c4
    have hlk := HLK.out w' (hx.block ms hml)
    change Oper.wp _ _ ra w' _ _
    refine reg.wp_value (v := .pointer (some ⟨q, 0, none⟩)) (w' := w') ?_ ⟨_, rfl, reg.Ext.refl _, rfl⟩
    intro ρ rc rf rg re
    rw [re] at s14
    simp [execOp, go_sem, rc, rf, rg, s14] <;> first | omega | rfl | decide
   ·-- 3: slot 16 := Op.load 66 t15
    intro ra w' hx hs
    have s15 : ra.eval (.tmp 15) = .pointer (some ⟨q, 0, none⟩) := hs.1
    clear hs
    have x0 := hx.cell x0
    have y0 := hx.cell y0
    have qc0 := hx.cell qc0
    have c1 := hx.cell c1
    have c4 := hx.cell c4
    have hlk := HLK.out w' (hx.block ms hml)
    change Oper.wp _ _ ra w' _ _
    refine reg.wp_value (v := .map (some ms)) (w' := w') ?_ ⟨_, rfl, reg.Ext.refl _, rfl⟩
    intro ρ rc rf rg re
    rw [re] at s15
    simp [execOp, go_sem, rc, rf, rg, s15, qc0] <;> first | omega | rfl | decide
   ·-- 4: slot 17 := Op.load 65 t3
    intro ra w' hx hs
    have s3 : ra.eval (.tmp 3) = .pointer (some ⟨bn, 0, none⟩) := hs.1
    clear hs
    have x0 := hx.cell x0
    have y0 := hx.cell y0
    have qc0 := hx.cell qc0
    have c1 := hx.cell c1
    have c4 := hx.cell c4
    have hlk := HLK.out w' (hx.block ms hml)
    change Oper.wp _ _ ra w' _ _
    refine reg.wp_value (v := PA g o) (w' := w') ?_ ⟨_, rfl, reg.Ext.refl _, rfl⟩
    intro ρ rc rf rg re
    rw [re] at s3
    simp [execOp, go_sem, rc, rf, rg, s3, y0] <;> first | omega | rfl | decide
   ·-- 5: slot 18 := Op.nilCheck t17
    intro ra w' hx hs
    have s17 : ra.eval (.tmp 17) = PA g o := hs.1
    clear hs
    have x0 := hx.cell x0
    have y0 := hx.cell y0
    have qc0 := hx.cell qc0
    have c1 := hx.cell c1
    have c4 := hx.cell c4
    have hlk := HLK.out w' (hx.block ms hml)
    change Oper.wp _ _ ra w' _ _
    refine reg.wp_value (v := PA g o) (w' := w') ?_ ⟨_, rfl, reg.Ext.refl _, rfl⟩
    intro ρ rc rf rg re
    rw [re] at s17
    simp [execOp, go_sem, rc, rf, rg, s17] <;> first | omega | rfl | decide
   ·-- 6: slot 19 := Op.fieldAddr 25 t18 1
    intro ra w' hx hs
    have s18 : ra.eval (.tmp 18) = PA g o := hs.1
    clear hs
    have x0 := hx.cell x0
    have y0 := hx.cell y0
    have qc0 := hx.cell qc0
    have c1 := hx.cell c1
    have c4 := hx.cell c4
    have hlk := HLK.out w' (hx.block ms hml)
    change Oper.wp _ _ ra w' _ _
    refine reg.wp_value (v := .pointer (some ⟨g, o + 1, none⟩)) (w' := w') ?_ ⟨_, rfl, reg.Ext.refl _, rfl⟩
    intro ρ rc rf rg re
    rw [re] at s18
    simp [execOp, go_sem, rc, rf, rg, s18] <;> first | omega | rfl | decide
   ·-- 7: slot 20 := Op.load 9 t19
    intro ra w' hx hs
    have s19 : ra.eval (.tmp 19) = .pointer (some ⟨g, o + 1, none⟩) := hs.1
    clear hs
    have x0 := hx.cell x0
    have y0 := hx.cell y0
    have qc0 := hx.cell qc0
    have c1 := hx.cell c1
    have c4 := hx.cell c4
    have hlk := HLK.out w' (hx.block ms hml)
    change Oper.wp _ _ ra w' _ _
    refine reg.wp_value (v := .string ⟨x.text.toArray⟩) (w' := w') ?_ ⟨_, rfl, reg.Ext.refl _, rfl⟩
    intro ρ rc rf rg re
    rw [re] at s19
    simp [execOp, go_sem, rc, rf, rg, s19, c1] <;> first | omega | rfl | decide
   ·-- 8: slot 21 := Op.lookup 66 t16 t20 false
    intro ra w' hx hs
    have s16 : ra.eval (.tmp 16) = .map (some ms) := hs.1
    have s20 : ra.eval (.tmp 20) = .string ⟨x.text.toArray⟩ := hs.2.1
    clear hs
    have x0 := hx.cell x0
    have y0 := hx.cell y0
    have qc0 := hx.cell qc0
    have c1 := hx.cell c1
    have c4 := hx.cell c4
    have hlk := HLK.out w' (hx.block ms hml)
    change Oper.wp _ _ ra w' _ _
    refine reg.wp_value (v := .bool true) (w' := w') ?_ ⟨_, rfl, reg.Ext.refl _, rfl⟩
    intro ρ rc rf rg re
    rw [re] at s16 s20
    simp [execOp, go_sem, rc, rf, rg, s16, s20, hlk] <;> first | omega | rfl | decide
   ·-- 9: slot 22 := Op.unOp UnOp.not 4 t21
    intro ra w' hx hs
    have s21 : ra.eval (.tmp 21) = .bool true := hs.1
    clear hs
    have x0 := hx.cell x0
    have y0 := hx.cell y0
    have qc0 := hx.cell qc0
    have c1 := hx.cell c1
    have c4 := hx.cell c4
    have hlk := HLK.out w' (hx.block ms hml)
    change Oper.wp _ _ ra w' _ _
    refine reg.wp_value (v := .bool false) (w' := w') ?_ ⟨_, rfl, reg.Ext.refl _, rfl⟩
    intro ρ rc rf rg re
    rw [re] at s21
    simp [execOp, go_sem, rc, rf, rg, s21] <;> first | omega | rfl | decide
   ·-- 10: slot 23 := Op.move t22
    intro ra w' hx hs
    have s22 : ra.eval (.tmp 22) = .bool false := hs.1
    clear hs
    have x0 := hx.cell x0
    have y0 := hx.cell y0
    have qc0 := hx.cell qc0
    have c1 := hx.cell c1
    have c4 := hx.cell c4
    have hlk := HLK.out w' (hx.block ms hml)
    change Oper.wp _ _ ra w' _ _
    refine reg.wp_value (v := .bool false) (w' := w') ?_ ⟨_, rfl, reg.Ext.refl _, rfl⟩
    intro ρ rc rf rg re
    rw [re] at s22
    simp [execOp, go_sem, rc, rf, rg, s22] <;> first | omega | rfl | decide
   ·-- 11: slot 24 := Op.load 71 t2
    intro ra w' hx hs
    have s2 : ra.eval (.tmp 2) = .pointer (some ⟨bc, 0, none⟩) := hs.1
    have s23 : ra.eval (.tmp 23) = .bool false := hs.2.1
    clear hs
    have x0 := hx.cell x0
    have y0 := hx.cell y0
    have qc0 := hx.cell qc0
    have c1 := hx.cell c1
    have c4 := hx.cell c4
    have hlk := HLK.out w' (hx.block ms hml)
    exact reg.want_no rfl rfl rfl s23 (by decide) rfl
   ·-- 12: slot 25 := Op.nilCheck t24
    intro ra w' hx hs
    have s24 : ra.eval (.tmp 24) = undef := hs.1
    have s23 : ra.eval (.tmp 23) = .bool false := hs.2.1
    clear hs
    have x0 := hx.cell x0
    have y0 := hx.cell y0
    have qc0 := hx.cell qc0
    have c1 := hx.cell c1
    have c4 := hx.cell c4
    have hlk := HLK.out w' (hx.block ms hml)
    exact reg.want_no rfl rfl rfl s23 (by decide) rfl
   ·-- 13: slot 26 := Op.fieldAddr 75 t25 0
    intro ra w' hx hs
    have s25 : ra.eval (.tmp 25) = undef := hs.1
    have s23 : ra.eval (.tmp 23) = .bool false := hs.2.1
    clear hs
    have x0 := hx.cell x0
    have y0 := hx.cell y0
    have qc0 := hx.cell qc0
    have c1 := hx.cell c1
    have c4 := hx.cell c4
    have hlk := HLK.out w' (hx.block ms hml)
    exact reg.want_no rfl rfl rfl s23 (by decide) rfl
   ·-- 14: slot 27 := Op.load 66 t26
    intro ra w' hx hs
    have s26 : ra.eval (.tmp 26) = undef := hs.1
    have s23 : ra.eval (.tmp 23) = .bool false := hs.2.1
    clear hs
    have x0 := hx.cell x0
    have y0 := hx.cell y0
    have qc0 := hx.cell qc0
    have c1 := hx.cell c1
    have c4 := hx.cell c4
    have hlk := HLK.out w' (hx.block ms hml)
    exact reg.want_no rfl rfl rfl s23 (by decide) rfl
   ·-- 15: slot 28 := Op.call { builtin len, args := #[t27], argTypes := #[66] }
    intro ra w' hx hs
    have s27 : ra.eval (.tmp 27) = undef := hs.1
    have s23 : ra.eval (.tmp 23) = .bool false := hs.2.1
    clear hs
    have x0 := hx.cell x0
    have y0 := hx.cell y0
    have qc0 := hx.cell qc0
    have c1 := hx.cell c1
    have c4 := hx.cell c4
    have hlk := HLK.out w' (hx.block ms hml)
    exact reg.want_no rfl rfl rfl s23 (by decide) rfl
   ·-- 16: slot 29 := Op.binOp BinOp.geq 3 t28 (const (32:i64)) 3
    intro ra w' hx hs
    have s28 : ra.eval (.tmp 28) = undef := hs.1
    have s23 : ra.eval (.tmp 23) = .bool false := hs.2.1
    clear hs
    have x0 := hx.cell x0
    have y0 := hx.cell y0
    have qc0 := hx.cell qc0
    have c1 := hx.cell c1
    have c4 := hx.cell c4
    have hlk := HLK.out w' (hx.block ms hml)
    exact reg.want_no rfl rfl rfl s23 (by decide) rfl
   ·-- 17: slot 30 := Op.pick t23 t29 (const (Value.bool false))
    intro ra w' hx hs
    have s23 : ra.eval (.tmp 23) = .bool false := hs.1
    have s29 : ra.eval (.tmp 29) = undef := hs.2.1
    clear hs
    have x0 := hx.cell x0
    have y0 := hx.cell y0
    have qc0 := hx.cell qc0
    have c1 := hx.cell c1
    have c4 := hx.cell c4
    have hlk := HLK.out w' (hx.block ms hml)
    change Oper.wp _ _ ra w' _ _
    refine reg.wp_value (v := .bool false) (w' := w') ?_ ⟨_, rfl, reg.Ext.refl _, rfl⟩
    intro ρ rc rf rg re
    rw [re] at s23 s29
    simp [execOp, go_sem, rc, rf, rg, s23, s29] <;> first | omega | rfl | decide
   ·-- 18: slot 31 := Op.load 65 t3
    intro ra w' hx hs
    have s3 : ra.eval (.tmp 3) = .pointer (some ⟨bn, 0, none⟩) := hs.1
    clear hs
    have x0 := hx.cell x0
    have y0 := hx.cell y0
    have qc0 := hx.cell qc0
    have c1 := hx.cell c1
    have c4 := hx.cell c4
    have hlk := HLK.out w' (hx.block ms hml)
    change Oper.wp _ _ ra w' _ _
    refine reg.wp_value (v := PA g o) (w' := w') ?_ ⟨_, rfl, reg.Ext.refl _, rfl⟩
    intro ρ rc rf rg re
    rw [re] at s3
    simp [execOp, go_sem, rc, rf, rg, s3, y0] <;> first | omega | rfl | decide
   ·-- 19: slot 32 := Op.nilCheck t31
    intro ra w' hx hs
    have s31 : ra.eval (.tmp 31) = PA g o := hs.1
    clear hs
    have x0 := hx.cell x0
    have y0 := hx.cell y0
    have qc0 := hx.cell qc0
    have c1 := hx.cell c1
    have c4 := hx.cell c4
    have hlk := HLK.out w' (hx.block ms hml)
    change Oper.wp _ _ ra w' _ _
    refine reg.wp_value (v := PA g o) (w' := w') ?_ ⟨_, rfl, reg.Ext.refl _, rfl⟩
    intro ρ rc rf rg re
    rw [re] at s31
    simp [execOp, go_sem, rc, rf, rg, s31] <;> first | omega | rfl | decide
   ·-- 20: slot 33 := Op.fieldAddr 25 t32 4
    intro ra w' hx hs
    have s32 : ra.eval (.tmp 32) = PA g o := hs.1
    clear hs
    have x0 := hx.cell x0
    have y0 := hx.cell y0
    have qc0 := hx.cell qc0
    have c1 := hx.cell c1
    have c4 := hx.cell c4
    have hlk := HLK.out w' (hx.block ms hml)
    change Oper.wp _ _ ra w' _ _
    refine reg.wp_value (v := .pointer (some ⟨g, o + 4, none⟩)) (w' := w') ?_ ⟨_, rfl, reg.Ext.refl _, rfl⟩
    intro ρ rc rf rg re
    rw [re] at s32
    simp [execOp, go_sem, rc, rf, rg, s32] <;> first | omega | rfl | decide
   ·-- 21: slot 34 := Op.load 3 t33
    intro ra w' hx hs
    have s33 : ra.eval (.tmp 33) = .pointer (some ⟨g, o + 4, none⟩) := hs.1
    clear hs
    have x0 := hx.cell x0
    have y0 := hx.cell y0
    have qc0 := hx.cell qc0
    have c1 := hx.cell c1
    have c4 := hx.cell c4
    have hlk := HLK.out w' (hx.block ms hml)
    change Oper.wp _ _ ra w' _ _
    refine reg.wp_value (v := .int .i64 x.at') (w' := w') ?_ ⟨_, rfl, reg.Ext.refl _, rfl⟩
    intro ρ rc rf rg re
    rw [re] at s33
    simp [execOp, go_sem, rc, rf, rg, s33, c4] <;> first | omega | rfl | decide
   ·-- 22: slot 35 := Op.call { value (Operand.func 35), args := #[t30, t34, const (2004:i64)], argTypes := #[4, 3, 30] }
    intro ra w' hx hs
    have s30 : ra.eval (.tmp 30) = .bool false := hs.1
    have s34 : ra.eval (.tmp 34) = .int .i64 x.at' := hs.2.1
    clear hs
    have x0 := hx.cell x0
    have y0 := hx.cell y0
    have qc0 := hx.cell qc0
    have c1 := hx.cell c1
    have c4 := hx.cell c4
    have hlk := HLK.out w' (hx.block ms hml)
    change Oper.wp _ _ ra w' _ _
    refine reg.wp_call (f := 35) (args := #[.bool false, .int .i64 x.at', .int .i64 2004]) (w' := w') ?_ ((fail_no x.at' 2004 w').mono ?_)
    ·intro ρ rc rf rg re
     rw [re] at s30 s34
     simp [execOp, go_sem, rc, rf, rg, s30, s34] <;> first | omega | rfl | decide
    ·rintro e w2 ⟨rfl, rfl⟩
     exact ⟨_, rfl, _, rfl, Below.refl _ _, rfl⟩
  intro rV wd hx6 hf
  have ve0 : rV 0 = PA q 0 := hf 0 (by decide)
  have ve1 : rV 1 = PA q 0 := hf 1 (by decide)
  have ve2 : rV 2 = .pointer (some ⟨q, 0, none⟩) := hf 2 (by decide)
  have ve3 : rV 3 = .map (some ms) := hf 3 (by decide)
  have ve4 : rV 4 = PA g o := hf 4 (by decide)
  have ve5 : rV 5 = PA g o := hf 5 (by decide)
  have ve6 : rV 6 = .pointer (some ⟨g, o + 1, none⟩) := hf 6 (by decide)
  have ve7 : rV 7 = .string ⟨x.text.toArray⟩ := hf 7 (by decide)
  have ve8 : rV 8 = .bool true := hf 8 (by decide)
  have ve9 : rV 9 = .bool false := hf 9 (by decide)
  have ve10 : rV 10 = .bool false := hf 10 (by decide)
  have ve11 : rV 11 = undef := hf 11 (by decide)
  have ve12 : rV 12 = undef := hf 12 (by decide)
  have ve13 : rV 13 = undef := hf 13 (by decide)
  have ve14 : rV 14 = undef := hf 14 (by decide)
  have ve15 : rV 15 = undef := hf 15 (by decide)
  have ve16 : rV 16 = undef := hf 16 (by decide)
  have ve17 : rV 17 = .bool false := hf 17 (by decide)
  have ve18 : rV 18 = PA g o := hf 18 (by decide)
  have ve19 : rV 19 = PA g o := hf 19 (by decide)
  have ve20 : rV 20 = .pointer (some ⟨g, o + 4, none⟩) := hf 20 (by decide)
  have ve21 : rV 21 = .int .i64 x.at' := hf 21 (by decide)
  have ve22 : rV 22 = .tuple #[] := hf 22 (by decide)
  clear hf
  simp only [List.zipIdx_cons, List.zipIdx_nil, List.foldl_cons, List.foldl_nil, Act.put, Nat.reduceAdd, List.setIfInBounds_toArray, List.set_cons_succ, List.set_cons_zero, ve0, ve1, ve2, ve3, ve4, ve5, ve6, ve7, ve8, ve9, ve10, ve11, ve12, ve13, ve14, ve15, ve16, ve17, ve18, ve19, ve20, ve21, ve22]
  clear ve0 ve1 ve2 ve3 ve4 ve5 ve6 ve7 ve8 ve9 ve10 ve11 ve12 ve13 ve14 ve15 ve16 ve17 ve18 ve19 ve20 ve21 ve22
  clear rV
  clear x0 y0 xl yl c0 c1 c3 c4 gl qc0 qc1 ql
  have hbd := par.ext_below hx6
  have HNd := Lib.hid (HN1.out.below hbd)
  have HCd := Lib.hid (HC1.out.below hbd)
  have HXd := Lib.hid (blk_below HX1.out hbd)
  have HYd := Lib.hid (blk_below HY1.out hbd)
  have HTd := Lib.hid (Turned.of_below (S := [ms]) hbd)
  clear hbd hx6 HLK hml
  have x0 := blk_cell HXd.out 0
  have y0 := blk_cell HYd.out 0
  have xl := blk_lt HXd.out
  have yl := blk_lt HYd.out
  simp only [List.getElem?_toArray, List.getElem?_cons_zero] at x0 y0
  obtain ⟨c0, c1, -, c3, c4, -⟩ := HNd.out
  have gl := World.block_lt_of_cell? wd _ c0
  have qc0 := blk_cell HCd.out.blk 0
  have qc1 := blk_cell HCd.out.blk 1
  have ql := blk_lt HCd.out.blk
  simp only [List.getElem?_toArray, List.getElem?_cons_zero, List.getElem?_cons_succ] at qc0 qc1
  go_wp2_with fail
  clear x0 y0 xl yl c0 c1 c3 c4 gl qc0 qc1 ql
  go_loopw [92, 6] (fun v92 v6 wr => ∃ (j : Nat) (s' : List Nm), j ≤ x.kids.length ∧ v92 = .int .i64 j ∧ Hid (kidsP fnT (x.kids.take j) set = .ok s' ∧ ChkP wr q ms mf s' ∧ Turned [ms] w1 wr)) (fun v92 _ _ => x.kids.length - (intOf v92).toNat)
  case atStart => exact ⟨0, set, Nat.zero_le _, rfl, by simp [kidsP], HCd.out, HTd.out⟩
  case round =>
   obtain ⟨j, s', hj, rfl, HK⟩ := hrel
   have HNr := Lib.hid (HN1.out.turned HK.out.2.2 HC1.out.st)
   have hx1 := HK.out.2.2.kept HX1.out (by simp; exact map_blk HX1.out HC1.out.st)
   have hy1 := HK.out.2.2.kept HY1.out (by simp; exact map_blk HY1.out HC1.out.st)
   have x0 := blk_cell hx1 0
   have y0 := blk_cell hy1 0
   have xl := blk_lt hx1
   have yl := blk_lt hy1
   simp only [List.getElem?_toArray, List.getElem?_cons_zero] at x0 y0
   have n3 := HNr.out.c3
   have ngl := World.block_lt_of_cell? wr _ n3
   clear hx1 hy1
   by_cases hlt : j < x.kids.length
   ·obtain ⟨y, hy⟩ : ∃ y, x.kids[j]? = some y := ⟨_, List.getElem?_eq_getElem hlt⟩
    obtain ⟨g', c', S', hag, hny, hn1, hn2⟩ := HNr.out.kid hy
    subst hag
    have hjI : (j : Int) < (x.kids.length : Int) := by omega
    have hKT := kids_take fnT x.kids j y set s' hy HK.out.1
    have HKT := Lib.hid hKT
    have HIH := Lib.hid (fun W h1 h2 => IH y s' g' (j * 5) c' S' q ms mf W h1 h2)
    have HNY := Lib.hid hny
    unfold maxLen at hn2
    clear hKT hny hy
    go_wp2_with fail
    go_still_tail 7, (by kernel_rfl)
    change wpList _ _ _ _ _ wr.drew
    have HNYd : Hid (NdP wr.drew g' (j * 5) d y c' S') := HNY.out.below (Below.refl _ _).drew
    have HCd : Hid (ChkP wr.drew q ms mf s') := HK.out.2.1.below (Below.refl _ _).drew
    have HTd : Hid (Turned [ms] w1 wr.drew) := HK.out.2.2.drew
    clear HNY x0 y0 n3 xl yl ngl
    generalize wr.drew = wd at *
    cases hne : nodeP fnT y s' with
    | ok s2 =>
     go_wp2_with fail
     refine (HIH.out _ HNYd.out HCd.out).mono ?_
     intro e w2 hpost
     rw [hne] at hpost
     obtain ⟨rfl, hc2, ht2⟩ := hpost
     have HR : Hid (kidsP fnT (x.kids.take (j + 1)) set = .ok s2 ∧ ChkP w2 q ms mf s2 ∧ Turned [ms] w1 w2) := ⟨by rw [HKT.out.1, hne], hc2, HTd.out.trans ht2⟩
     clear hc2 ht2 hne HKT HIH HNYd HCd HTd HK
     go_wp2_with fail
     go_roundw
     case rel => exact ⟨j + 1, s2, by omega, by go_num, HR⟩
     case measure => simp [intOf]; omega
    | error r =>
     go_wp2_with fail
     refine (HIH.out _ HNYd.out HCd.out).mono ?_
     intro e w2 hpost
     rw [hne] at hpost
     obtain ⟨rfl, ⟨s9, hc9⟩, ht2⟩ := hpost
     have HC9 := Lib.hid hc9
     clear hc9
     have HE : Hid (nodeP fnT x set = .error r) := by unfold Hid; rw [kids_all _ _ _ HFZ.out, HKT.out.2 r hne]
     have HT2 := Lib.hid (HTd.out.trans ht2)
     clear ht2 hne HKT HIH HNYd HTd
     go_wp2_with fail
     have hx2 := HT2.out.kept HX1.out (by simp; exact map_blk HX1.out HC1.out.st)
     have hy2 := HT2.out.kept HY1.out (by simp; exact map_blk HY1.out HC1.out.st)
     have hn2 := HN1.out.turned HT2.out HC1.out.st
     refine leaves_cons (f := 53) (args := #[.pointer (some ⟨bc, 0, none⟩), .pointer (some ⟨bn, 0, none⟩)]) (by simp) (by simp [go_sem]) ?_
     refine (node1_any bc bn q ms g o s9 x.text (.panicking [{ v := wrongV r.1 r.2, recovered := false }]) w2 (by rw [blk_cell hx2]; rfl) (by rw [blk_cell HC9.out.blk]; rfl) (by rw [blk_cell hy2]; rfl) hn2.c1 HC9.out.st).mono ?_
     rintro e u' w3 ⟨rfl, rfl, hm3, ht3⟩
     change NodeP (nodeP fnT x set) q ms mf w (.panicked _) w3
     rw [HE.out]
     exact ⟨rfl, ⟨_, HC9.out.turned ht3 hm3⟩, HB1.out.trans (HT2.out.trans ht3)⟩
   ·have hd : j = x.kids.length := by omega
    have HE : Hid (nodeP fnT x set = .ok (after x.kind x.text s')) := by unfold Hid; rw [kids_all _ _ _ HFZ.out]; have := HK.out.1; rw [hd, List.take_length] at this; rw [this]
    have hjI : ¬ (j : Int) < (x.kids.length : Int) := by omega
    go_wp2_with fail
    have HC9 := Lib.hid HK.out.2.1
    have HT2 := Lib.hid HK.out.2.2
    obtain ⟨w2, rfl⟩ : ∃ w2 : World, w2 = wr := ⟨_, rfl⟩
    have hx2 := HT2.out.kept HX1.out (by simp; exact map_blk HX1.out HC1.out.st)
    have hy2 := HT2.out.kept HY1.out (by simp; exact map_blk HY1.out HC1.out.st)
    have hn2 := HN1.out.turned HT2.out HC1.out.st
    refine leaves_cons (f := 53) (args := #[.pointer (some ⟨bc, 0, none⟩), .pointer (some ⟨bn, 0, none⟩)]) (by simp) (by simp [go_sem]) ?_
    refine (node1_any bc bn q ms g o s' x.text .returning w2 (by rw [blk_cell hx2]; rfl) (by rw [blk_cell HC9.out.blk]; rfl) (by rw [blk_cell hy2]; rfl) hn2.c1 HC9.out.st).mono ?_
    rintro e u' w3 ⟨rfl, rfl, hm3, ht3⟩
    refine ⟨.tuple #[], by simp [results, Tryz.results42], ?_⟩
    rw [HE.out, HAF.out]
    exact ⟨rfl, HC9.out.turned ht3 hm3, HB1.out.trans (HT2.out.trans ht3)⟩
 | false =>
  have hms : ∃ es ck, w1.drew.heap[ms]? = some (.map es ck) ∧ es.size = set.length := by
   obtain ⟨es, ck, h1, h2⟩ := HC1.out.st
   exact ⟨es, ck, h1, by simpa using congrArg List.length h2⟩
  obtain ⟨es, ck, hm1, hm2⟩ := hms
  have hln : (Builtin.len_ #[66] 3 #[.map (some ms)]).run Tryz.prog w1.drew = .ok (.int .i64 set.length) w1.drew := by
   simp [Builtin.len_, run_underlying Tryz.underlying66, MapKept.run_getObj_map hm1, Result.andThen, goInt, hm2]
  have hgo := MapKept.run_getObj_map (P := Tryz.prog) hm1
  clear hm1
  generalize hbl : decide (32 ≤ (set.length : Int)) = bl at *
  have HBL := Lib.hid hbl
  go_still_tail 22, (by kernel_rfl)
  change wpList _ _ _ _ _ w1.drew
  clear hlk hln hgo hbl hm2
  clear x0 y0 xl yl c0 c1 c3 c4 gl qc0 qc1 ql
  have HXd : Hid (w1.drew.heap[bc]? = some (.cells #[PA q 0] 71 (0, 0))) := HX1.out
  have HYd : Hid (w1.drew.heap[bn]? = some (.cells #[PA g o] 65 (0, 0))) := HY1.out
  have HNd := Lib.hid (HN1.out.below (Below.refl _ _).drew)
  have HCd := Lib.hid (HC1.out.below (Below.refl _ _).drew)
  have HTd : Hid (Turned [ms] w1 w1.drew) := (Turned.refl _ _).drew
  generalize w1.drew = wd at *
  cases bl with
  | true =>
   have hle : 32 ≤ set.length := by have := of_decide_eq_true HBL.out; omega
   have HE : Hid (nodeP fnT x set = .error (x.at', 2004)) := by
    have h := HFZ.out
    rw [if_pos ⟨rfl, hle⟩] at h
    unfold Hid
    rw [node_fault _ _ _ (by rw [h]; decide), h]
   clear hle
   go_wp2_with fail
   refine (fail_yes _ _ _).mono ?_; rintro e w' ⟨rfl, rfl⟩
   go_wp2_with fail
   change NodeP (nodeP fnT x set) q ms mf w (.panicked _) wd
   rw [HE.out]
   exact ⟨rfl, ⟨_, HCd.out⟩, HB1.out.trans HTd.out⟩
  | false =>
   have HFZ0 : Hid (faultOf fnT x.kind x.text x.kids.length set = 0) := by
    have h := HFZ.out
    have hle : ¬ 32 ≤ set.length := fun h => by have := of_decide_eq_false HBL.out; omega
    rw [if_neg (fun h => hle h.2)] at h
    exact h
   clear HFZ
   have HFZ := HFZ0
   clear HFZ0
   go_wp2_with fail
   refine (fail_no _ _ _).mono ?_; rintro e w' ⟨rfl, rfl⟩
   have x0 := blk_cell HXd.out 0
   have y0 := blk_cell HYd.out 0
   have xl := blk_lt HXd.out
   have yl := blk_lt HYd.out
   simp only [List.getElem?_toArray, List.getElem?_cons_zero] at x0 y0
   obtain ⟨c0, c1, -, c3, c4, -⟩ := HNd.out
   have gl := World.block_lt_of_cell? wd _ c0
   have qc0 := blk_cell HCd.out.blk 0
   have qc1 := blk_cell HCd.out.blk 1
   have ql := blk_lt HCd.out.blk
   simp only [List.getElem?_toArray, List.getElem?_cons_zero, List.getElem?_cons_succ] at qc0 qc1
   go_wp2_with fail
   clear x0 y0 xl yl c0 c1 c3 c4 gl qc0 qc1 ql
   go_loopw [92, 6] (fun v92 v6 wr => ∃ (j : Nat) (s' : List Nm), j ≤ x.kids.length ∧ v92 = .int .i64 j ∧ Hid (kidsP fnT (x.kids.take j) set = .ok s' ∧ ChkP wr q ms mf s' ∧ Turned [ms] w1 wr)) (fun v92 _ _ => x.kids.length - (intOf v92).toNat)
   case atStart => exact ⟨0, set, Nat.zero_le _, rfl, by simp [kidsP], HCd.out, HTd.out⟩
   case round =>
    obtain ⟨j, s', hj, rfl, HK⟩ := hrel
    have HNr := Lib.hid (HN1.out.turned HK.out.2.2 HC1.out.st)
    have hx1 := HK.out.2.2.kept HX1.out (by simp; exact map_blk HX1.out HC1.out.st)
    have hy1 := HK.out.2.2.kept HY1.out (by simp; exact map_blk HY1.out HC1.out.st)
    have x0 := blk_cell hx1 0
    have y0 := blk_cell hy1 0
    have xl := blk_lt hx1
    have yl := blk_lt hy1
    simp only [List.getElem?_toArray, List.getElem?_cons_zero] at x0 y0
    have n3 := HNr.out.c3
    have ngl := World.block_lt_of_cell? wr _ n3
    clear hx1 hy1
    by_cases hlt : j < x.kids.length
    ·obtain ⟨y, hy⟩ : ∃ y, x.kids[j]? = some y := ⟨_, List.getElem?_eq_getElem hlt⟩
     obtain ⟨g', c', S', hag, hny, hn1, hn2⟩ := HNr.out.kid hy
     subst hag
     have hjI : (j : Int) < (x.kids.length : Int) := by omega
     have hKT := kids_take fnT x.kids j y set s' hy HK.out.1
     have HKT := Lib.hid hKT
     have HIH := Lib.hid (fun W h1 h2 => IH y s' g' (j * 5) c' S' q ms mf W h1 h2)
     have HNY := Lib.hid hny
     unfold maxLen at hn2
     clear hKT hny hy
     go_wp2_with fail
     go_still_tail 7, (by kernel_rfl)
     change wpList _ _ _ _ _ wr.drew
     have HNYd : Hid (NdP wr.drew g' (j * 5) d y c' S') := HNY.out.below (Below.refl _ _).drew
     have HCd : Hid (ChkP wr.drew q ms mf s') := HK.out.2.1.below (Below.refl _ _).drew
     have HTd : Hid (Turned [ms] w1 wr.drew) := HK.out.2.2.drew
     clear HNY x0 y0 n3 xl yl ngl
     generalize wr.drew = wd at *
     cases hne : nodeP fnT y s' with
     | ok s2 =>
      go_wp2_with fail
      refine (HIH.out _ HNYd.out HCd.out).mono ?_
      intro e w2 hpost
      rw [hne] at hpost
      obtain ⟨rfl, hc2, ht2⟩ := hpost
      have HR : Hid (kidsP fnT (x.kids.take (j + 1)) set = .ok s2 ∧ ChkP w2 q ms mf s2 ∧ Turned [ms] w1 w2) := ⟨by rw [HKT.out.1, hne], hc2, HTd.out.trans ht2⟩
      clear hc2 ht2 hne HKT HIH HNYd HCd HTd HK
      go_wp2_with fail
      go_roundw
      case rel => exact ⟨j + 1, s2, by omega, by go_num, HR⟩
      case measure => simp [intOf]; omega
     | error r =>
      go_wp2_with fail
      refine (HIH.out _ HNYd.out HCd.out).mono ?_
      intro e w2 hpost
      rw [hne] at hpost
      obtain ⟨rfl, ⟨s9, hc9⟩, ht2⟩ := hpost
      have HC9 := Lib.hid hc9
      clear hc9
      have HE : Hid (nodeP fnT x set = .error r) := by unfold Hid; rw [kids_all _ _ _ HFZ.out, HKT.out.2 r hne]
      have HT2 := Lib.hid (HTd.out.trans ht2)
      clear ht2 hne HKT HIH HNYd HTd
      go_wp2_with fail
      have hx2 := HT2.out.kept HX1.out (by simp; exact map_blk HX1.out HC1.out.st)
      have hy2 := HT2.out.kept HY1.out (by simp; exact map_blk HY1.out HC1.out.st)
      have hn2 := HN1.out.turned HT2.out HC1.out.st
      refine leaves_cons (f := 53) (args := #[.pointer (some ⟨bc, 0, none⟩), .pointer (some ⟨bn, 0, none⟩)]) (by simp) (by simp [go_sem]) ?_
      refine (node1_any bc bn q ms g o s9 x.text (.panicking [{ v := wrongV r.1 r.2, recovered := false }]) w2 (by rw [blk_cell hx2]; rfl) (by rw [blk_cell HC9.out.blk]; rfl) (by rw [blk_cell hy2]; rfl) hn2.c1 HC9.out.st).mono ?_
      rintro e u' w3 ⟨rfl, rfl, hm3, ht3⟩
      change NodeP (nodeP fnT x set) q ms mf w (.panicked _) w3
      rw [HE.out]
      exact ⟨rfl, ⟨_, HC9.out.turned ht3 hm3⟩, HB1.out.trans (HT2.out.trans ht3)⟩
    ·have hd : j = x.kids.length := by omega
     have HE : Hid (nodeP fnT x set = .ok (after x.kind x.text s')) := by unfold Hid; rw [kids_all _ _ _ HFZ.out]; have := HK.out.1; rw [hd, List.take_length] at this; rw [this]
     have hjI : ¬ (j : Int) < (x.kids.length : Int) := by omega
     go_wp2_with fail
     have HC9 := Lib.hid HK.out.2.1
     have HT2 := Lib.hid HK.out.2.2
     obtain ⟨w2, rfl⟩ : ∃ w2 : World, w2 = wr := ⟨_, rfl⟩
     have hx2 := HT2.out.kept HX1.out (by simp; exact map_blk HX1.out HC1.out.st)
     have hy2 := HT2.out.kept HY1.out (by simp; exact map_blk HY1.out HC1.out.st)
     have hn2 := HN1.out.turned HT2.out HC1.out.st
     refine leaves_cons (f := 53) (args := #[.pointer (some ⟨bc, 0, none⟩), .pointer (some ⟨bn, 0, none⟩)]) (by simp) (by simp [go_sem]) ?_
     refine (node1_any bc bn q ms g o s' x.text .returning w2 (by rw [blk_cell hx2]; rfl) (by rw [blk_cell HC9.out.blk]; rfl) (by rw [blk_cell hy2]; rfl) hn2.c1 HC9.out.st).mono ?_
     rintro e u' w3 ⟨rfl, rfl, hm3, ht3⟩
     refine ⟨.tuple #[], by simp [results, Tryz.results42], ?_⟩
     rw [HE.out, HAF.out]
     exact ⟨rfl, HC9.out.turned ht3 hm3, HB1.out.trans (HT2.out.trans ht3)⟩
theorem node_all : ∀ d, NodeAt d
 | 0 => fun x set g o c S q ms mf w hn _ => hn.kv.elim
 | d + 1 => fun x set g o c S q ms mf w hn hc => by
  have IH := node_all d
  by_cases k1 : x.kind = 9
  ·exact node_set IH x set g o c S q ms mf w hn hc k1
  ·by_cases k2 : x.kind = 14
   ·exact node_name IH x set g o c S q ms mf w hn hc k2
   ·by_cases k3 : x.kind = 19
    ·exact node_ask IH x set g o c S q ms mf w hn hc k3
    ·exact node_other IH x set g o c S q ms mf w hn hc k1 k2 k3
end Go.Proofs.YtkcgldpedfafpaaGreat.chk
