/-
  Proved: what the statement's own helpers on extents give (SameExtents, same, CopyExtents, LendExtents, KeptExtents, SpoilExtents). Conditions: as each theorem says.
-/
import Derived.Test.YtjaljnpgomfmfaaInode4
import Derived.Deep.AppendLies
namespace Go.Proofs.Ytjaljnpgomfmfaa.inode
open Go.RowKit
open heap
open num (Num_any list_len leS leE leGood U64)
set_option linter.unusedVariables false

def eqTo (ex ey : Nat → Ext) : Nat → Bool
  | 0 => true
  | k + 1 => eqTo ex ey k && decide (ex k = ey k)
theorem eqTo_iff (ex ey : Nat → Ext) (n : Nat) : eqTo ex ey n = true ↔ ∀ i, i < n → ex i = ey i := by
  induction n with
  | zero => simp [eqTo]
  | succ n ih =>
    simp only [eqTo, Bool.and_eq_true, decide_eq_true_eq, ih]
    constructor
    · rintro ⟨h1, h2⟩ i hi
      rcases Nat.lt_or_ge i n with h | h
      · exact h1 i h
      · obtain rfl : i = n := by omega
        exact h2
    · intro h
      exact ⟨fun i hi => h i (by omega), h n (by omega)⟩
def sameX (n m : Nat) (ex ey : Nat → Ext) : Bool := decide (n = m) && eqTo ex ey n
theorem eq_ext (a b c d : Int) (w : World) : (Op.equalIn 10000 41 (.agg #[.int .i64 a, .int .i64 b]) (.agg #[.int .i64 c, .int .i64 d])).run Try.prog w = .ok (a == c && b == d) w := by
  have u3 := Try.underlying3
  rw [show (10000 : Nat) = 9999 + 1 from rfl, run_equalIn_struct w 9999 41 _ _ (by kernel_rfl) (by kernel_rfl)]
  simp only [Program.fieldsOf, Try.underlying41]
  go_simp
  by_cases h1 : a = c <;> by_cases h2 : b = d <;> simp [h1, h2]
theorem neql_ext (a b c d : Int) (w : World) : (binOp .neq 41 (.agg #[.int .i64 a, .int .i64 b]) (.agg #[.int .i64 c, .int .i64 d])).run Try.prog w = .ok (.bool (!(a == c && b == d))) w := by
  rw [run_neq_struct, eq_ext]; rfl
theorem eql_ext (a b c d : Int) (w : World) : (binOp .eql 41 (.agg #[.int .i64 a, .int .i64 b]) (.agg #[.int .i64 c, .int .i64 d])).run Try.prog w = .ok (.bool (a == c && b == d)) w := by
  rw [run_eql_struct, eq_ext]; rfl
set_option maxRecDepth 100000 in
set_option maxHeartbeats 1600000 in
theorem SameExtents_any (a b : Option Addr) (n m ca cb : Nat) (ex ey : Nat → Ext) (w : World) (hx : ExtsIn w a n ex) (hy : ExtsIn w b m ey) (hn : n ≤ 9223372036854775807) (hm : m ≤ 9223372036854775807) :
    Calls Try.prog 80 #[.slice a n ca, .slice b m cb] w fun e w' => e = .returned (.bool (sameX n m ex ey)) ∧ Below w.heap.size w w' := by
  by_cases hnm : n = m
  · subst hnm
    have HX := Lib.hid hx
    have HY := Lib.hid hy
    have HS : Hid (sameX n n ex ey = eqTo ex ey n) := by simp [Hid, sameX]
    clear hx hy
    go_enter Try.func80, Try.ntmps80
    go_wp2_with fail
    go_loopw [5] (fun i wr => ∃ k : Nat, k ≤ n ∧ i = .int .i64 k ∧ Hid (eqTo ex ey k = true) ∧ Hid (Below w.heap.size w wr)) (fun i _ => n - (intOf i).toNat)
    case atStart => exact ⟨0, Nat.zero_le _, rfl, rfl, Below.refl _ _⟩
    case round =>
      obtain ⟨k, hk, rfl, HE, HB⟩ := hrel
      by_cases hlt : k < n
      · obtain ⟨b1, o1, rfl, hbw, hcells⟩ := (HX.out.below HB.out) (by omega)
        obtain ⟨c0, c1⟩ := hcells k hlt
        obtain ⟨b2, o2, rfl, hbw2, hcells2⟩ := (HY.out.below HB.out) (by omega)
        obtain ⟨d0, d1⟩ := hcells2 k hlt
        have hk1 : (k : Int) < n := by omega
        have HEQ : Hid (ex k = ey k → eqTo ex ey (k + 1) = true) := fun h => by rw [eqTo, HE.out]; simp [h]
        have HNE : Hid (ex k ≠ ey k → eqTo ex ey n = false) := fun h => by
          cases hc : eqTo ex ey n with
          | false => rfl
          | true => exact absurd ((eqTo_iff ex ey n).1 hc k hlt) h
        have HV : Hid (((ex k).1 == (ey k).1 && (ex k).2 == (ey k).2) = decide (ex k = ey k)) := by
          rw [Hid, Bool.eq_iff_iff]; simp [Prod.ext_iff]
        clear hcells hcells2
        generalize (ex k).1 = e1 at *
        generalize (ex k).2 = e2 at *
        generalize (ey k).1 = f1 at *
        generalize (ey k).2 = f2 at *
        go_wp2_with fail
        refine reg.region_each (by kernel_rfl) reg.Ext (fun ri v w' => match ri with
            | 0 => v = .slice (some ⟨b1, o1, none⟩) n ca
            | 1 => v = .int .i64 k
            | 2 => v = .pointer (some ⟨b1, o1 + k * 2, none⟩)
            | 3 => v = .agg #[.int .i64 e1, .int .i64 e2]
            | 4 => v = .slice (some ⟨b2, o2, none⟩) n cb
            | 5 => v = .int .i64 k
            | 6 => v = .pointer (some ⟨b2, o2 + k * 2, none⟩)
            | 7 => v = .agg #[.int .i64 f1, .int .i64 f2]
            | 8 => v = .bool (!(e1 == f1 && e2 == f2))
            | _ => True) reg.Ext.refl reg.Ext.trans ?mono1 (by kernel_rfl) ?step1 ?fin1
        case mono1 =>
          intro i v w1 w2 h hx
          rcases i with _|_|_|_|_|_|_|_|_|i
          · exact h
          · exact h
          · exact h
          · exact h
          · exact h
          · exact h
          · exact h
          · exact h
          · exact h
          · trivial
        case step1 =>
          refine ⟨?_, ?_, ?_, ?_, ?_, ?_, ?_, ?_, ?_, trivial⟩
          · -- 0: slot 17 := Op.move t0
            intro ra w' hx hs
            have s0 : ra.eval (.tmp 0) = .slice (some ⟨b1, o1, none⟩) n ca := hs.1
            clear hs
            have c0 := hx.cell c0
            have c1 := hx.cell c1
            have d0 := hx.cell d0
            have d1 := hx.cell d1
            change Oper.wp _ _ ra w' _ _
            refine reg.wp_value (v := .slice (some ⟨b1, o1, none⟩) n ca) (w' := w') ?_ ⟨_, rfl, reg.Ext.refl _, rfl⟩
            intro ρ rc rf rg re
            rw [re] at s0
            simp [execOp, go_sem, rc, rf, rg, s0] <;> omega
          · -- 1: slot 18 := Op.move t5
            intro ra w' hx hs
            have s5 : ra.eval (.tmp 5) = .int .i64 k := hs.1
            clear hs
            have c0 := hx.cell c0
            have c1 := hx.cell c1
            have d0 := hx.cell d0
            have d1 := hx.cell d1
            change Oper.wp _ _ ra w' _ _
            refine reg.wp_value (v := .int .i64 k) (w' := w') ?_ ⟨_, rfl, reg.Ext.refl _, rfl⟩
            intro ρ rc rf rg re
            rw [re] at s5
            simp [execOp, go_sem, rc, rf, rg, s5] <;> omega
          · -- 2: slot 19 := Op.indexAddr 71 t17 t18
            intro ra w' hx hs
            have s17 : ra.eval (.tmp 17) = .slice (some ⟨b1, o1, none⟩) n ca := hs.1
            have s18 : ra.eval (.tmp 18) = .int .i64 k := hs.2.1
            clear hs
            have c0 := hx.cell c0
            have c1 := hx.cell c1
            have d0 := hx.cell d0
            have d1 := hx.cell d1
            change Oper.wp _ _ ra w' _ _
            refine reg.wp_value (v := .pointer (some ⟨b1, o1 + k * 2, none⟩)) (w' := w') ?_ ⟨_, rfl, reg.Ext.refl _, rfl⟩
            intro ρ rc rf rg re
            rw [re] at s17 s18
            simp [execOp, go_sem, rc, rf, rg, s17, s18, hk1, hlt] <;> omega
          · -- 3: slot 20 := Op.load 41 t19
            intro ra w' hx hs
            have s19 : ra.eval (.tmp 19) = .pointer (some ⟨b1, o1 + k * 2, none⟩) := hs.1
            clear hs
            have c0 := hx.cell c0
            have c1 := hx.cell c1
            have d0 := hx.cell d0
            have d1 := hx.cell d1
            change Oper.wp _ _ ra w' _ _
            refine reg.wp_value (v := .agg #[.int .i64 e1, .int .i64 e2]) (w' := w') ?_ ⟨_, rfl, reg.Ext.refl _, rfl⟩
            intro ρ rc rf rg re
            rw [re] at s19
            simp [execOp, go_sem, rc, rf, rg, s19, c0, c1] <;> omega
          · -- 4: slot 21 := Op.move t1
            intro ra w' hx hs
            have s1 : ra.eval (.tmp 1) = .slice (some ⟨b2, o2, none⟩) n cb := hs.1
            clear hs
            have c0 := hx.cell c0
            have c1 := hx.cell c1
            have d0 := hx.cell d0
            have d1 := hx.cell d1
            change Oper.wp _ _ ra w' _ _
            refine reg.wp_value (v := .slice (some ⟨b2, o2, none⟩) n cb) (w' := w') ?_ ⟨_, rfl, reg.Ext.refl _, rfl⟩
            intro ρ rc rf rg re
            rw [re] at s1
            simp [execOp, go_sem, rc, rf, rg, s1] <;> omega
          · -- 5: slot 22 := Op.move t5
            intro ra w' hx hs
            have s5 : ra.eval (.tmp 5) = .int .i64 k := hs.1
            clear hs
            have c0 := hx.cell c0
            have c1 := hx.cell c1
            have d0 := hx.cell d0
            have d1 := hx.cell d1
            change Oper.wp _ _ ra w' _ _
            refine reg.wp_value (v := .int .i64 k) (w' := w') ?_ ⟨_, rfl, reg.Ext.refl _, rfl⟩
            intro ρ rc rf rg re
            rw [re] at s5
            simp [execOp, go_sem, rc, rf, rg, s5] <;> omega
          · -- 6: slot 23 := Op.indexAddr 71 t21 t22
            intro ra w' hx hs
            have s21 : ra.eval (.tmp 21) = .slice (some ⟨b2, o2, none⟩) n cb := hs.1
            have s22 : ra.eval (.tmp 22) = .int .i64 k := hs.2.1
            clear hs
            have c0 := hx.cell c0
            have c1 := hx.cell c1
            have d0 := hx.cell d0
            have d1 := hx.cell d1
            change Oper.wp _ _ ra w' _ _
            refine reg.wp_value (v := .pointer (some ⟨b2, o2 + k * 2, none⟩)) (w' := w') ?_ ⟨_, rfl, reg.Ext.refl _, rfl⟩
            intro ρ rc rf rg re
            rw [re] at s21 s22
            simp [execOp, go_sem, rc, rf, rg, s21, s22, hk1, hlt] <;> omega
          · -- 7: slot 24 := Op.load 41 t23
            intro ra w' hx hs
            have s23 : ra.eval (.tmp 23) = .pointer (some ⟨b2, o2 + k * 2, none⟩) := hs.1
            clear hs
            have c0 := hx.cell c0
            have c1 := hx.cell c1
            have d0 := hx.cell d0
            have d1 := hx.cell d1
            change Oper.wp _ _ ra w' _ _
            refine reg.wp_value (v := .agg #[.int .i64 f1, .int .i64 f2]) (w' := w') ?_ ⟨_, rfl, reg.Ext.refl _, rfl⟩
            intro ρ rc rf rg re
            rw [re] at s23
            simp [execOp, go_sem, rc, rf, rg, s23, d0, d1] <;> omega
          · -- 8: slot 25 := Op.binOp BinOp.neq 41 t20 t24 41
            intro ra w' hx hs
            have s20 : ra.eval (.tmp 20) = .agg #[.int .i64 e1, .int .i64 e2] := hs.1
            have s24 : ra.eval (.tmp 24) = .agg #[.int .i64 f1, .int .i64 f2] := hs.2.1
            clear hs
            have c0 := hx.cell c0
            have c1 := hx.cell c1
            have d0 := hx.cell d0
            have d1 := hx.cell d1
            change Oper.wp _ _ ra w' _ _
            refine reg.wp_value (v := .bool (!(e1 == f1 && e2 == f2))) (w' := w') ?_ ⟨_, rfl, reg.Ext.refl _, rfl⟩
            intro ρ rc rf rg re
            rw [re] at s20 s24
            simp [execOp, go_sem, rc, rf, rg, s20, s24, neql_ext] <;> omega
        intro rV w2 hx hf
        have ve0 : rV 0 = .slice (some ⟨b1, o1, none⟩) n ca := hf 0 (by decide)
        have ve1 : rV 1 = .int .i64 k := hf 1 (by decide)
        have ve2 : rV 2 = .pointer (some ⟨b1, o1 + k * 2, none⟩) := hf 2 (by decide)
        have ve3 : rV 3 = .agg #[.int .i64 e1, .int .i64 e2] := hf 3 (by decide)
        have ve4 : rV 4 = .slice (some ⟨b2, o2, none⟩) n cb := hf 4 (by decide)
        have ve5 : rV 5 = .int .i64 k := hf 5 (by decide)
        have ve6 : rV 6 = .pointer (some ⟨b2, o2 + k * 2, none⟩) := hf 6 (by decide)
        have ve7 : rV 7 = .agg #[.int .i64 f1, .int .i64 f2] := hf 7 (by decide)
        have ve8 : rV 8 = .bool (!(e1 == f1 && e2 == f2)) := hf 8 (by decide)
        clear hf
        simp only [List.zipIdx_cons, List.zipIdx_nil, List.foldl_cons, List.foldl_nil, Act.put, Nat.reduceAdd, List.setIfInBounds_toArray, List.set_cons_succ, List.set_cons_zero, ve0, ve1, ve2, ve3, ve4, ve5, ve6, ve7, ve8]
        clear ve0 ve1 ve2 ve3 ve4 ve5 ve6 ve7 ve8
        clear rV
        have HB2 : Hid (Below w.heap.size w w2) := HB.out.trans ((Below.trans (Below.drew (Below.refl _ _)) hx).mono HB.out.size)
        clear hx c0 c1 d0 d1
        rw [HV.out]
        by_cases heq : ex k = ey k
        · rw [decide_eq_true heq, Bool.not_true]
          have HEK := Lib.hid (HEQ.out heq)
          clear heq
          go_wp2_with fail
          go_roundw
          case rel => exact ⟨k + 1, by omega, by go_num, HEK, HB2⟩
          case measure => simp [intOf]; omega
        · rw [decide_eq_false heq, Bool.not_false]
          have HEK := Lib.hid (HNE.out heq)
          clear heq
          go_wp2_with fail
          go_ret
          exact ⟨ret_bool (by rw [HS.out, HEK.out]), HB2.out⟩
      · obtain rfl : k = n := by omega
        go_wp2_with fail
        go_ret
        exact ⟨ret_bool (by rw [HS.out, HE.out]), HB.out⟩
  · have hb : ((n : Int) != (m : Int)) = true := by rw [bne_iff_ne]; omega
    have HS : Hid (sameX n m ex ey = false) := by simp [Hid, sameX, hnm]
    clear hx hy
    go_enter Try.func80, Try.ntmps80
    go_wp2_with fail
    go_ret
    exact ⟨ret_bool HS.out.symm, Below.refl _ _⟩
/-- The cells of extents. -/
def exCells (ex : Nat → Ext) (n : Nat) : List Value := (List.range (n * 2)).map fun j => if j % 2 = 0 then .int .i64 (ex (j / 2)).1 else .int .i64 (ex (j / 2)).2
theorem exCells_len (ex : Nat → Ext) (n : Nat) : (exCells ex n).length = n * 2 := by simp [exCells]
theorem exCells_get (ex : Nat → Ext) (n j : Nat) (h : j < n * 2) : (exCells ex n)[j]? = some (if j % 2 = 0 then .int .i64 (ex (j / 2)).1 else .int .i64 (ex (j / 2)).2) := by
  simp [exCells, h]
theorem exCells_one (ex : Nat → Ext) (n : Nat) : ∀ u ∈ exCells ex n, u.oneCell' = true := by
  intro u hu
  simp only [exCells, List.mem_map] at hu
  obtain ⟨j, _, rfl⟩ := hu
  split <;> rfl
theorem exCells_snoc (ex : Nat → Ext) (n : Nat) : exCells ex (n + 1) = exCells ex n ++ [.int .i64 (ex n).1, .int .i64 (ex n).2] := by
  have e1 : (n * 2) % 2 = 0 := by omega
  have e2 : (n * 2) / 2 = n := by omega
  have e3 : (n * 2 + 1) % 2 = 1 := by omega
  have e4 : (n * 2 + 1) / 2 = n := by omega
  simp [exCells, show (n + 1) * 2 = n * 2 + 1 + 1 by omega, List.range_succ, e1, e2, e3, e4]
theorem exCells_congr {ex ey : Nat → Ext} {n : Nat} (h : ∀ i, i < n → ex i = ey i) : exCells ex n = exCells ey n := by
  unfold exCells
  refine List.map_congr_left (fun j hj => ?_)
  rw [List.mem_range] at hj
  rw [h (j / 2) (by omega)]
theorem add0 (g j : Nat) : (⟨g, 0, none⟩ : Addr).add j = ⟨g, j, none⟩ := by unfold Addr.add; split <;> simp_all
theorem addOff (b off j : Nat) : (⟨b, off, none⟩ : Addr).add j = ⟨b, off + j, none⟩ := by unfold Addr.add; split <;> simp_all
/-- A slice of the call's own that reads as extents. -/
def XRow (w : World) (base : Nat) (v : Value) (n : Nat) (ex : Nat → Ext) : Prop := w.ownsRow base 41 2 v n (exCells ex n)
theorem rowExts {w : World} {base g n m cap : Nat} {xs : List Value} {ex : Nat → Ext} (h : w.ownsRow base 41 2 (.slice (some ⟨g, 0, none⟩) m cap) m xs) (hp : ∀ j, j < n * 2 → xs[j]? = (exCells ex n)[j]?) : ExtsIn w (some ⟨g, 0, none⟩) n ex := by
  intro hn
  refine ⟨g, 0, rfl, (h.lt g rfl).2, fun i hi => ?_⟩
  have hc := h.cells (g := g) rfl
  have h0 := hc (i * 2) _ (by rw [hp _ (by omega), exCells_get ex n _ (by omega)])
  have h1 := hc (i * 2 + 1) _ (by rw [hp _ (by omega), exCells_get ex n _ (by omega)])
  rw [add0] at h0 h1
  rw [if_pos (by omega), show i * 2 / 2 = i by omega] at h0
  rw [if_neg (by omega), show (i * 2 + 1) / 2 = i by omega] at h1
  rw [Nat.zero_add]
  exact ⟨h0, h1⟩
theorem XRow.exts {w : World} {base n cap : Nat} {a : Option Addr} {ex : Nat → Ext} (h : XRow w base (.slice a n cap) n ex) : ExtsIn w a n ex := by
  obtain ⟨hl, h1 | ⟨g, c, cur, hv, h2⟩⟩ := h
  · intro hn; omega
  · simp only [Value.slice.injEq] at hv
    obtain ⟨rfl, -, rfl⟩ := hv
    exact rowExts (m := n) (base := base) ⟨hl, .inr ⟨g, cap, cur, rfl, h2⟩⟩ (fun _ _ => rfl)
theorem infoE : (Try.prog.info? 41).map (fun i => (i.zero, i.size, i.bytes)) = some (some (.agg #[.int .i64 0, .int .i64 0]), 2, 16) := by kernel_rfl
theorem append_x (w : World) (base : Nat) (v : Value) (n : Nat) (xs : List Value) (hown : w.ownsRow base 41 2 v n xs) (ad : Addr) (m c : Nat) (news : List Value) (hl : news.length = m * 2)
    (hnews : ∀ j u, news[j]? = some u → w.cell? (ad.add j) = some u) (h1 : ∀ u ∈ news, u.oneCell' = true) (hbytes : (n + m) * 16 ≤ 140737488355328) (hbase : base ≤ w.heap.size) :
    ∃ v' w', (Builtin.append_ #[71, 71] 71 #[v, .slice (some ad) m c]).run Try.prog w = .ok v' w' ∧ w'.ownsRow base 41 2 v' (n + m) (xs ++ news) ∧ w.grownBy w' v.ownBlock := by
  obtain ⟨i0, hi, hz0, hz1, hz2⟩ := info_parts infoE
  obtain ⟨v', w', h1, h2, h3, _⟩ := run_append_own (P := Try.prog) w base 71 71 41 i0 _ 2 16 Try.underlying71 hi hz0 hz1 hz2 rfl (by decide) v n xs hown ad m c news hl hnews h1 (by unfold maxLen; omega) hbytes hbase
  exact ⟨v', w', h1, h2, h3⟩
theorem append_x_none (w : World) (base : Nat) (v : Value) (n : Nat) (xs : List Value) (hown : w.ownsRow base 41 2 v n xs) :
    (Builtin.append_ #[71, 71] 71 #[v, .slice none 0 0]).run Try.prog w = .ok v w := by
  obtain ⟨i0, hi, hz0, hz1, hz2⟩ := info_parts infoE
  exact run_append_owned_none (P := Try.prog) (w := w) base 71 71 41 i0 2 Try.underlying71 hi v n xs hown
/-- append([]api.Extent{}, a...) -/
theorem copy_run (w : World) (a : Option Addr) (n ca : Nat) (ex : Nat → Ext) (hx : ExtsIn w a n ex) (hnil : a = none → ca = 0) (hb : n * 16 ≤ 140737488355328) :
    ∃ v' w', (Builtin.append_ #[71, 71] 71 #[.slice (some ⟨w.heap.size, 0, none⟩) 0 0, .slice a n ca]).run Try.prog (w.alloc (.cells #[] 41)) = .ok v' w' ∧ XRow w' w.heap.size v' n ex ∧ Below w.heap.size w w' := by
  have hown : (w.alloc (.cells #[] 41)).ownsRow w.heap.size 41 2 (.slice (some ⟨w.heap.size, 0, none⟩) 0 0) 0 [] :=
    World.ownsRow_made w #[] 0 (Nat.le_refl _) (by unfold maxLen; omega) rfl
  have hba : Below w.heap.size w (w.alloc (.cells #[] 41)) := (Below.refl _ _).alloc (Nat.le_refl _) _
  cases a with
  | none =>
    obtain rfl : n = 0 := by
      rcases Nat.eq_zero_or_pos n with h | h
      · exact h
      · obtain ⟨b, off, h, _⟩ := hx h; cases h
    rw [hnil rfl]
    exact ⟨_, _, append_x_none _ _ _ _ _ hown, hown, hba⟩
  | some ad =>
    obtain ⟨v', w', h1, h2, h3⟩ := append_x _ _ _ _ _ hown ad n ca (exCells ex n) (exCells_len ex n) (fun j u hu => by
      have hj : j < n * 2 := by
        have := (List.getElem?_eq_some_iff.1 hu).1
        rwa [exCells_len] at this
      rw [exCells_get ex n j hj] at hu
      cases hu
      obtain ⟨b, off, he, hlt, hc⟩ := (hx.below hba) (by omega)
      cases he
      obtain ⟨c0, c1⟩ := hc (j / 2) (by omega)
      rw [addOff]
      split
      · rw [show off + j / 2 * 2 = off + j by omega] at c0; exact c0
      · rw [show off + j / 2 * 2 + 1 = off + j by omega] at c1; exact c1) (exCells_one ex n) (by omega) (by simp)
    rw [Nat.zero_add, List.nil_append] at h2
    exact ⟨v', w', h1, h2, hba.grown h3 (by simp) (fun k e => by cases e; exact Nat.le_refl _)⟩
set_option maxRecDepth 100000 in
theorem CopyExtents_any (w : World) (a : Option Addr) (n ca : Nat) (ex : Nat → Ext) (hx : ExtsIn w a n ex) (hnil : a = none → ca = 0) (hb : n * 16 ≤ 140737488355328) :
    Calls Try.prog 76 #[.slice a n ca] w fun e w' => ∃ v', e = .returned v' ∧ XRow w' w.heap.size v' n ex ∧ Below w.heap.size w w' := by
  obtain ⟨v', w', h1, h2, h3⟩ := copy_run w a n ca ex hx hnil hb
  have H2 := Lib.hid h2
  have H3 := Lib.hid h3
  clear hx hnil hb h2 h3
  go_enter Try.func76, Try.ntmps76
  have H1 := Lib.hid h1
  clear h1
  go_wp2_with (at_builtin; refine reg.wpList_append rfl rfl rfl rfl rfl H1.out ?_)
  go_ret
  exact ⟨_, rfl, H2.out, H3.out⟩
end Go.Proofs.Ytjaljnpgomfmfaa.inode
