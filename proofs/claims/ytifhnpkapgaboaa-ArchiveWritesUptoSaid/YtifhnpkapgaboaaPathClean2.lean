/-
  Proved: what path.Clean gives. Conditions: as each theorem says.
-/
import Derived.Test.YtifhnpkapgaboaaPathParts
namespace Go.Proofs.Ytifhnpkapgaboaa.path
open Go.RowKit Go.Shelf
open heap
set_option linter.unusedVariables false
attribute [local go_sem] Oper.semAt_some

theorem SRow.drop {w : World} {base n cp : Nat} {a : Option Addr} {ws : List (List UInt8)} (h : SRow w base (.slice a n cp) ws) : n = ws.length ∧ SRow w base (.slice a (n - 1) cp) ws.dropLast := by
  obtain ⟨hl, ⟨h1, h2⟩ | ⟨g, c, cur, hv, h2, h3, h4, h5, h6, h7⟩⟩ := h
  · simp only [Value.slice.injEq] at h1
    obtain ⟨rfl, rfl, rfl⟩ := h1
    have hw : ws = [] := List.length_eq_zero_iff.1 h2
    subst hw
    exact ⟨rfl, World.ownsRow_nil _ _ _ _⟩
  · simp only [Value.slice.injEq] at hv
    obtain ⟨rfl, rfl, rfl⟩ := hv
    refine ⟨rfl, by simp, .inr ⟨g, cp, cur, by simp, h2, h3, by simp; omega, h5, h6, ?_⟩⟩
    have e : (ws.dropLast.map sv) = (ws.map sv).take (ws.length - 1) := by rw [List.map_dropLast, List.dropLast_eq_take, List.length_map]
    rw [e, ← h7, List.take_take]
    congr 1
    simp
theorem wayW_len (st ps ws : List (List UInt8)) (h : wayW st ps = some ws) : ws.length ≤ st.length + ps.length := by
  induction ps generalizing st with
  | nil => simp [wayW] at h; rw [h]; simp
  | cons p ps ih =>
    simp only [wayW] at h
    unfold stepW at h
    split at h
    · cases h
    · rename_i v hv
      have := ih v h
      have hvl : v.length ≤ st.length + 1 := by
        split at hv
        · cases hv; omega
        · split at hv
          · cases hv; simp; omega
          · split at hv
            · cases hv
            · cases hv; simp
      simp
      omega
structure CnI (w : World) (Bw c : Nat) (st pre : List (List UInt8)) (W : World) : Prop where
  r1 : W.heap[w.heap.size]? = some (.cells #[.string ⟨#[]⟩] 9 (0, 0))
  r2 : W.heap[w.heap.size + 1]? = some (.cells #[.int .i64 0] 26 (0, 0))
  way : ∃ a n cp ws, W.heap[Bw]? = some (.cells #[.slice a n cp] 141 (0, 0)) ∧ SRow W (Bw + 1) (.slice a n cp) ws ∧ wayW st pre = some ws ∧ ∀ g, (Value.slice a n cp).ownBlock = some g → g ≠ c
  bel : Below w.heap.size w W
  big : c < W.heap.size
def CnX (w : World) (st : List (List UInt8)) (k : Code) (pre : List (List UInt8)) (W : World) : Prop :=
  k = .ret ∧ W.heap[w.heap.size]? = some (.cells #[.string ⟨#[]⟩] 9 (0, 0)) ∧ W.heap[w.heap.size + 1]? = some (.cells #[.int .i64 401] 26 (0, 0)) ∧ Below w.heap.size w W ∧ wayW st pre = none
theorem wayW_none {st ps : List (List UInt8)} (qs : List (List UInt8)) (h : wayW st ps = none) : wayW st (ps ++ qs) = none := by
  induction ps generalizing st with
  | nil => simp [wayW] at h
  | cons p ps ih =>
    simp only [List.cons_append, wayW] at h ⊢
    split at h
    · rfl
    · exact ih h
theorem CnI.chg {w : World} {Bw c B : Nat} {st pre : List (List UInt8)} {W W' : World} (h : CnI w Bw c st pre W) (hc : Chg B c W W') (h1 : w.heap.size + 2 ≤ Bw) (h2 : Bw < c) (h3 : c < B) : CnI w Bw c st pre W' := by
  obtain ⟨a, n, cp, ws, hv, hrow, hw, hg⟩ := h.way
  have hb := h.big
  exact ⟨by rw [hc.low _ (by omega) (by omega) (by omega)]; exact h.r1, by rw [hc.low _ (by omega) (by omega) (by omega)]; exact h.r2,
    ⟨a, n, cp, ws, by rw [hc.low _ (by omega) (by omega) (by omega)]; exact hv, own_kept hrow (fun g o hg' ho hcl => hc.cells g o (hg g hg') ho hcl), hw, hg⟩, hc.below h.bel (by omega) (by omega), Nat.lt_of_lt_of_le hb hc.size⟩
set_option maxRecDepth 100000 in
set_option maxHeartbeats 1000000 in
theorem Clean_unclean (cwd s : List UInt8) (w : World) (hc : cwd.length ≤ 9223372036854775806) (h : cleanB cwd = false) :
    Calls Try.prog 95 #[sv cwd, sv s] w fun e w' => e = .returned (.tuple #[.string ⟨#[]⟩, .int .i64 401]) ∧ Below w.heap.size w w' := by
  have HC := Lib.hid (fun W : World => clean_any cwd W hc)
  rw [h] at HC
  refine (callsIn_wide (n := 9)).1 (callsIn_of_wp_marks Try.func95 rfl trivial ?_ rfl)
  simp only [Try.ntmps95, List.size_toArray, List.length_cons, List.length_nil, Nat.reduceAdd, Nat.reduceSub, Array.replicate_succ, Array.replicate_zero, List.push_toArray, List.append_toArray, List.nil_append, List.cons_append]
  refine wpIn_wide.2 ?_
  have HR1 := Lib.hid (blk_old (blk_new w (.cells #[.string ⟨#[]⟩] 9 (0, 0))) (.cells #[.int .i64 0] 26 (0, 0)))
  have hr2 := blk_new (w.alloc (.cells #[.string ⟨#[]⟩] 9 (0, 0))) (.cells #[.int .i64 0] 26 (0, 0))
  rw [World.size_alloc] at hr2
  have HR2 := Lib.hid hr2
  have HBA : Hid (Below w.heap.size w ((w.alloc (.cells #[.string ⟨#[]⟩] 9 (0, 0))).alloc (.cells #[.int .i64 0] 26 (0, 0)))) := ((Below.refl _ _).alloc (Nat.le_refl _) _).alloc (by simp) _
  clear hr2
  go_wp2_with fail
  (with_reducible refine (HC.out _).mono ?_); rintro e w1 ⟨rfl, hb1⟩
  have hr1 := blk_below HR1.out hb1
  have hr2 := blk_below HR2.out hb1
  have HB1 : Hid (Below w.heap.size w w1) := HBA.out.trans (hb1.mono HBA.out.size)
  have c1 : w1.cell? ⟨w.heap.size, 0, none⟩ = some (.string ⟨#[]⟩) := by rw [blk_cell hr1]; rfl
  have c2 : w1.cell? ⟨w.heap.size + 1, 0, none⟩ = some (.int .i64 0) := by rw [blk_cell hr2]; rfl
  have f1 : w1.frozen? ⟨w.heap.size, 0, none⟩ = false := blk_free hr1 0
  have f2 : w1.frozen? ⟨w.heap.size + 1, 0, none⟩ = false := blk_free hr2 0
  clear hb1 hr1 hr2
  go_wp2_with fail
  exact ⟨.tuple #[.string ⟨#[]⟩, .int .i64 401], by simp [results, Try.results95, go_sem, c1, c2], rfl, (HB1.out.setCell (by simp) _).setCell (by simp) _⟩
set_option maxRecDepth 100000 in
set_option maxHeartbeats 1000000 in
theorem Clean_short (cwd s : List UInt8) (er : Int) (w : World) (hc : cwd.length ≤ 9223372036854775806) (hs : s.length ≤ 9223372036854775806) (h : cleanB cwd = true) (hb : (s = [] ∧ er = 400) ∨ (s ≠ [] ∧ 560 < s.length ∧ er = 403)) :
    Calls Try.prog 95 #[sv cwd, sv s] w fun e w' => e = .returned (.tuple #[.string ⟨#[]⟩, .int .i64 er]) ∧ Below w.heap.size w w' := by
  have HC := Lib.hid (fun W : World => clean_any cwd W hc)
  have z := str_size s
  rw [h] at HC
  refine (callsIn_wide (n := 9)).1 (callsIn_of_wp_marks Try.func95 rfl trivial ?_ rfl)
  simp only [Try.ntmps95, List.size_toArray, List.length_cons, List.length_nil, Nat.reduceAdd, Nat.reduceSub, Array.replicate_succ, Array.replicate_zero, List.push_toArray, List.append_toArray, List.nil_append, List.cons_append]
  refine wpIn_wide.2 ?_
  have HR1 := Lib.hid (blk_old (blk_new w (.cells #[.string ⟨#[]⟩] 9 (0, 0))) (.cells #[.int .i64 0] 26 (0, 0)))
  have hr2 := blk_new (w.alloc (.cells #[.string ⟨#[]⟩] 9 (0, 0))) (.cells #[.int .i64 0] 26 (0, 0))
  rw [World.size_alloc] at hr2
  have HR2 := Lib.hid hr2
  have HBA : Hid (Below w.heap.size w ((w.alloc (.cells #[.string ⟨#[]⟩] 9 (0, 0))).alloc (.cells #[.int .i64 0] 26 (0, 0)))) := ((Below.refl _ _).alloc (Nat.le_refl _) _).alloc (by simp) _
  clear hr2
  go_wp2_with fail
  (with_reducible refine (HC.out _).mono ?_); rintro e w1 ⟨rfl, hb1⟩
  have hr1 := blk_below HR1.out hb1
  have hr2 := blk_below HR2.out hb1
  have HB1 : Hid (Below w.heap.size w w1) := HBA.out.trans (hb1.mono HBA.out.size)
  have c1 : w1.cell? ⟨w.heap.size, 0, none⟩ = some (.string ⟨#[]⟩) := by rw [blk_cell hr1]; rfl
  have c2 : w1.cell? ⟨w.heap.size + 1, 0, none⟩ = some (.int .i64 0) := by rw [blk_cell hr2]; rfl
  have f1 : w1.frozen? ⟨w.heap.size, 0, none⟩ = false := blk_free hr1 0
  have f2 : w1.frozen? ⟨w.heap.size + 1, 0, none⟩ = false := blk_free hr2 0
  clear hb1 hr1 hr2
  rcases hb with ⟨rfl, rfl⟩ | ⟨h0, hbig, rfl⟩
  · go_wp2_with fail
    exact ⟨.tuple #[.string ⟨#[]⟩, .int .i64 400], by simp [results, Try.results95, go_sem, c1, c2], rfl, (HB1.out.setCell (by simp) _).setCell (by simp) _⟩
  · have b0 : s.isEmpty = false := by cases s <;> simp_all
    have b0' : (s == []) = false := by rw [beq_eq_false_iff_ne]; exact h0
    clear h0
    go_wp2_with fail
    exact ⟨.tuple #[.string ⟨#[]⟩, .int .i64 403], by simp [results, Try.results95, go_sem, c1, c2], rfl, (HB1.out.setCell (by simp) _).setCell (by simp) _⟩
end Go.Proofs.Ytifhnpkapgaboaa.path
