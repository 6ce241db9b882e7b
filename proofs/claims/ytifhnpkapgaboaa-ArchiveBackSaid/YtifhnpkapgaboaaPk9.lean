/-
  Proved: plain facts on clean paths: a way of good names joined and cut again; what Clean gives is clean and stays so. No program is in sight.
-/
import Derived.Test.YtifhnpkapgaboaaPk8
namespace Go.Proofs.Ytifhnpkapgaboaa.path
set_option linter.unusedVariables false

theorem good_no {p : List UInt8} (h : nameE p = 0) : p ≠ [] ∧ (47 : UInt8) ∉ p ∧ p ≠ [46] ∧ p ≠ [46, 46] ∧ p.length ≤ 16 := by
  unfold nameE at h
  split at h
  · cases h
  · rename_i h0
    split at h
    · cases h
    · rename_i h1
      refine ⟨h0, fun e => h1 (.inr (.inr (.inr (.inl e)))), fun e => h1 (.inr (.inl e)), fun e => h1 (.inr (.inr (.inl e))), ?_⟩
      rcases Nat.lt_or_ge 16 p.length with e | e
      · exact absurd (.inl e) h1
      · exact e
theorem joinL_cons (p q : List UInt8) (ws : List (List UInt8)) : joinL (p :: q :: ws) = p ++ 47 :: joinL (q :: ws) := by
  simp [joinL, List.intercalate, List.intersperse]
theorem joinL_one (p : List UInt8) : joinL [p] = p := by simp [joinL, List.intercalate]
theorem joinL_nil : joinL [] = [] := by simp [joinL, List.intercalate]
theorem joinL_snoc (ws : List (List UInt8)) (p : List UInt8) (h : ws ≠ []) : joinL (ws ++ [p]) = joinL ws ++ 47 :: p := by
  induction ws with
  | nil => exact absurd rfl h
  | cons q qs ih =>
    cases qs with
    | nil => rw [List.cons_append, List.nil_append, joinL_cons, joinL_one, joinL_one]
    | cons r rs => rw [List.cons_append, List.cons_append, joinL_cons, ← List.cons_append, ih (by simp), joinL_cons, List.append_assoc, List.cons_append]
theorem joinL_ne {ws : List (List UInt8)} (hg : ∀ p ∈ ws, nameE p = 0) (h : ws ≠ []) : joinL ws ≠ [] := by
  cases ws with
  | nil => exact absurd rfl h
  | cons p ps =>
    have := (good_no (hg p (List.mem_cons_self ..))).1
    cases ps with
    | nil => rw [joinL_one]; exact this
    | cons q qs => rw [joinL_cons]; simp [this]
theorem pieces_join (ws : List (List UInt8)) (hg : ∀ p ∈ ws, nameE p = 0) (h : ws ≠ []) : piecesL (joinL ws) = ws := by
  induction ws with
  | nil => exact absurd rfl h
  | cons p ps ih =>
    have hp := (good_no (hg p (List.mem_cons_self ..))).2.1
    cases ps with
    | nil => rw [joinL_one, pieces_no p hp]
    | cons q qs => rw [joinL_cons, pieces_yes _ _ hp, ih (fun r hr => hg r (List.mem_cons_of_mem _ hr)) (by simp)]
theorem parts_join (ws : List (List UInt8)) (hg : ∀ p ∈ ws, nameE p = 0) : partsL (joinL ws) = ws := by
  by_cases h : ws = []
  · subst h; simp [partsL, joinL_nil]
  · rw [partsL, if_neg (joinL_ne hg h), pieces_join ws hg h]
theorem clean_join (ws : List (List UInt8)) (hg : ∀ p ∈ ws, nameE p = 0) (h8 : ws.length ≤ 8) (h140 : (joinL ws).length ≤ 140) : cleanB (joinL ws) = true := by
  by_cases h : ws = []
  · subst h; simp [cleanB, joinL_nil]
  · unfold cleanB
    rw [pieces_join ws hg h, decide_eq_true hg, decide_eq_true h8, decide_eq_true h140]
    simp
/-- A way keeps to good names. -/
theorem wayW_good (st ps ws : List (List UInt8)) (h : wayW st ps = some ws) (hst : ∀ p ∈ st, nameE p = 0) : ∀ p ∈ ws, nameE p = 0 := by
  induction ps generalizing st with
  | nil => simp [wayW] at h; subst h; exact hst
  | cons p ps ih =>
    simp only [wayW] at h
    split at h
    · cases h
    · rename_i v hv
      refine ih v h ?_
      unfold stepW at hv
      split at hv
      · cases hv; exact hst
      · split at hv
        · cases hv; exact fun q hq => hst q ((List.dropLast_sublist _).subset hq)
        · split at hv
          · cases hv
          · rename_i hn
            cases hv
            intro q hq
            rcases List.mem_append.1 hq with hq | hq
            · exact hst q hq
            · rw [List.mem_singleton] at hq; rw [hq]; exact Classical.not_not.1 hn
theorem start_good (cwd s : List UInt8) (h : cleanB cwd = true) : ∀ p ∈ startW cwd s, nameE p = 0 := by
  unfold startW
  split
  · intro p hp; cases hp
  · unfold partsL
    split
    · intro p hp; cases hp
    · rename_i hne
      simp only [cleanB, Bool.or_eq_true, decide_eq_true_eq, Bool.and_eq_true] at h
      exact (h.resolve_left hne).1.1
/-- What Clean gives where it gives a path. -/
theorem clean_ok (cwd s : List UInt8) (h : (cleanR cwd s).2 = 0) : cleanB cwd = true ∧ s ≠ [] ∧ s.length ≤ 560 ∧ ∃ ws, wayW (startW cwd s) (piecesL s) = some ws ∧ (cleanR cwd s).1 = joinL ws ∧ ws.length ≤ 8 ∧ (joinL ws).length ≤ 140 ∧ ∀ p ∈ ws, nameE p = 0 := by
  unfold cleanR at h ⊢
  split at h
  · cases h
  · rename_i h1
    split at h
    · cases h
    · rename_i h2
      split at h
      · cases h
      · rename_i h3
        have hc : cleanB cwd = true := by simpa using h1
        refine ⟨hc, h2, by omega, ?_⟩
        rw [if_neg h1, if_neg h2, if_neg h3]
        split at h
        · cases h
        · rename_i ws hw
          split at h
          · cases h
          · rename_i h4
            split at h
            · cases h
            · rename_i h5
              rw [hw]
              exact ⟨ws, rfl, by simp [h4, h5], by omega, by omega, wayW_good _ _ _ hw (start_good cwd s hc)⟩
theorem clean_no (cwd s : List UInt8) (h : (cleanR cwd s).2 ≠ 0) : (cleanR cwd s).1 = [] := by
  unfold cleanR at h ⊢
  repeat' split
  all_goals first | rfl | (simp_all; done)
theorem clean_mk (cwd s : List UInt8) (ws : List (List UInt8)) (h1 : cleanB cwd = true) (h2 : s ≠ []) (h3 : s.length ≤ 560) (h4 : wayW (startW cwd s) (piecesL s) = some ws) (h5 : ws.length ≤ 8) (h6 : (joinL ws).length ≤ 140) : cleanR cwd s = (joinL ws, 0) := by
  unfold cleanR
  rw [h1, if_neg (by simp), if_neg h2, if_neg (by omega), h4]
  simp only
  rw [if_neg (by omega), if_neg (by omega)]
theorem clean_long (cwd s : List UInt8) (h1 : cleanB cwd = true) (h2 : s ≠ []) (h3 : 560 < s.length) : cleanR cwd s = ([], 403) := by
  unfold cleanR
  rw [h1, if_neg (by simp), if_neg h2, if_pos h3]
theorem way_join (ws vs : List (List UInt8)) (hg : ∀ p ∈ ws, nameE p = 0) : wayW vs ws = some (vs ++ ws) := by
  induction ws generalizing vs with
  | nil => simp [wayW]
  | cons p ps ih =>
    have hp := good_no (hg p (List.mem_cons_self ..))
    have : stepW vs p = some (vs ++ [p]) := by
      unfold stepW
      rw [if_neg (fun h => h.elim hp.1 hp.2.2.1), if_neg hp.2.2.2.1, if_neg (by simp [hg p (List.mem_cons_self ..)])]
    simp only [wayW, this]
    rw [ih _ (fun q hq => hg q (List.mem_cons_of_mem _ hq))]
    simp
/-- Clean of the root's path. -/
theorem clean_root (cwd : List UInt8) (ws : List (List UInt8)) (h1 : cleanB cwd = true) (hg : ∀ p ∈ ws, nameE p = 0) (h5 : ws.length ≤ 8) (h6 : (joinL ws).length ≤ 140) : cleanR cwd (47 :: joinL ws) = (joinL ws, 0) := by
  refine clean_mk cwd _ ws h1 (by simp) (by simp; omega) ?_ h5 h6
  have e : piecesL (47 :: joinL ws) = [] :: piecesL (joinL ws) := by rw [piecesL, if_pos rfl]
  have es : startW cwd (47 :: joinL ws) = [] := by simp [startW]
  have st : ∀ v, stepW v [] = some v := fun v => by simp [stepW]
  rw [e, es]
  simp only [wayW, st]
  by_cases h : ws = []
  · subst h; rw [joinL_nil]; simp [piecesL, wayW, st]
  · rw [pieces_join ws hg h, way_join ws [] hg, List.nil_append]
theorem clean_dot (ws : List (List UInt8)) (hg : ∀ p ∈ ws, nameE p = 0) (h5 : ws.length ≤ 8) (h6 : (joinL ws).length ≤ 140) : cleanR (joinL ws) [46] = (joinL ws, 0) := by
  refine clean_mk _ _ ws (clean_join ws hg h5 h6) (by simp) (by simp) ?_ h5 h6
  have e : piecesL [46] = [[46]] := by decide
  have es : startW (joinL ws) [46] = ws := by simp [startW, parts_join ws hg]
  have st : stepW ws [46] = some ws := by simp [stepW]
  rw [e, es]
  simp [wayW, st]
/-- Up and up. -/
def upS : Nat → List UInt8
  | 0 => []
  | k + 1 => upS k ++ [47, 46, 46]
theorem upS_len (k : Nat) : (upS k).length = 3 * k := by
  induction k with
  | zero => rfl
  | succ k ih => simp [upS, ih]; omega
theorem pieces_snoc (l q : List UInt8) (hq : (47 : UInt8) ∉ q) : piecesL (l ++ 47 :: q) = piecesL l ++ [q] := by
  rcases cut_at l with h | ⟨a, b, rfl, h⟩
  · rw [pieces_yes l q h, pieces_no l h, pieces_no q hq]; rfl
  · have hb : b.length < (a ++ 47 :: b).length := by simp; omega
    rw [List.append_assoc, List.cons_append, pieces_yes _ _ h, pieces_yes _ _ h, pieces_snoc b q hq, List.cons_append]
termination_by l.length
theorem pieces_up (s : List UInt8) (k : Nat) : piecesL (s ++ upS k) = piecesL s ++ List.replicate k [46, 46] := by
  induction k with
  | zero => simp [upS]
  | succ k ih =>
    rw [upS, ← List.append_assoc]
    rw [show (s ++ upS k ++ [47, 46, 46] : List UInt8) = (s ++ upS k) ++ 47 :: [46, 46] from rfl, pieces_snoc _ _ (by decide), ih, List.append_assoc, List.replicate_succ']
theorem way_app (st ps qs ws : List (List UInt8)) (h : wayW st ps = some ws) : wayW st (ps ++ qs) = wayW ws qs := by
  induction ps generalizing st with
  | nil => simp [wayW] at h; rw [h]; rfl
  | cons p ps ih =>
    simp only [List.cons_append, wayW] at h ⊢
    split at h
    · cases h
    · exact ih _ h
theorem way_up (ws : List (List UInt8)) (k : Nat) : wayW ws (List.replicate k [46, 46]) = some (ws.take (ws.length - k)) := by
  induction k generalizing ws with
  | zero => simp [wayW]
  | succ k ih =>
    have st : stepW ws [46, 46] = some ws.dropLast := by simp [stepW]
    rw [List.replicate_succ, wayW, st]
    simp only
    rw [ih, List.length_dropLast, List.dropLast_eq_take, List.take_take]
    congr 2
    omega
theorem clean_up (cwd s : List UInt8) (ws : List (List UInt8)) (k : Nat) (h1 : cleanB cwd = true) (h2 : s ≠ []) (h3 : (s ++ upS k).length ≤ 560) (h4 : wayW (startW cwd s) (piecesL s) = some ws) (h5 : ws.length ≤ 8) (h6 : (joinL (ws.take (ws.length - k))).length ≤ 140) :
    cleanR cwd (s ++ upS k) = (joinL (ws.take (ws.length - k)), 0) := by
  refine clean_mk _ _ _ h1 (by simp [h2]) h3 ?_ (by rw [List.length_take]; omega) h6
  have es : startW cwd (s ++ upS k) = startW cwd s := by
    cases s with
    | nil => exact absurd rfl h2
    | cons c r => rfl
  rw [es, pieces_up, way_app _ _ _ _ h4, way_up]
theorem join_take_le (ws : List (List UInt8)) (n : Nat) : (joinL (ws.take n)).length ≤ (joinL ws).length := by
  induction n generalizing ws with
  | zero => simp [joinL_nil]
  | succ n ih =>
    cases ws with
    | nil => simp
    | cons p ps =>
      cases ps with
      | nil => simp
      | cons q qs =>
        have := ih (q :: qs)
        cases n with
        | zero => simp [joinL_one, joinL_cons]
        | succ n =>
          rw [List.take_succ_cons, List.take_succ_cons, joinL_cons, joinL_cons]
          rw [List.take_succ_cons] at this
          simp at this ⊢
          omega
theorem join_step (ws : List (List UInt8)) (i : Nat) (p : List UInt8) (hg : ∀ p ∈ ws, nameE p = 0) (h : ws[i]? = some p) : pJoin (joinL (ws.take i)) p = joinL (ws.take (i + 1)) := by
  have hp : p ∈ ws := List.mem_of_getElem? h
  have hpn := (good_no (hg p hp)).1
  have ht : ws.take (i + 1) = ws.take i ++ [p] := by rw [List.take_add_one, h]; rfl
  rw [ht]
  by_cases h0 : ws.take i = []
  · rw [h0]; simp [pJoin, joinL_nil, joinL_one]
  · have hne := joinL_ne (fun q hq => hg q ((List.take_sublist _ _).subset hq)) h0
    rw [joinL_snoc _ _ h0, pJoin, if_neg (fun h => h.elim hne hpn)]
theorem join_below (ws : List (List UInt8)) (i : Nat) (hg : ∀ p ∈ ws, nameE p = 0) (h : i < ws.length) : belowB (joinL ws) (joinL (ws.take i)) = true ∧ joinL (ws.take i) ≠ joinL ws := by
  by_cases h0 : i = 0
  · subst h0
    refine ⟨by simp [belowB, joinL_nil], ?_⟩
    rw [List.take_zero, joinL_nil]
    exact fun e => joinL_ne hg (fun e' => by rw [e'] at h; cases h) e.symm
  · have hsplit : ∀ (us vs : List (List UInt8)), us ≠ [] → vs ≠ [] → joinL (us ++ vs) = joinL us ++ 47 :: joinL vs := by
      intro us
      induction us with
      | nil => intro vs h; exact absurd rfl h
      | cons u us ih =>
        intro vs _ hv
        cases us with
        | nil =>
          cases vs with
          | nil => exact absurd rfl hv
          | cons v vs => rw [List.cons_append, List.nil_append, joinL_cons, joinL_one]
        | cons u2 us => rw [List.cons_append, List.cons_append, joinL_cons, ← List.cons_append, ih vs (by simp) hv, joinL_cons, List.append_assoc, List.cons_append]
    have e := hsplit (ws.take i) (ws.drop i) (fun e => by have := congrArg List.length e; rw [List.length_take, List.length_nil] at this; omega) (fun e => by have := congrArg List.length e; rw [List.length_drop, List.length_nil] at this; omega)
    rw [List.take_append_drop] at e
    rw [e]
    refine ⟨?_, fun h => ?_⟩
    · unfold belowB
      have : Lib.hasPrefix (joinL (ws.take i) ++ 47 :: joinL (ws.drop i)) (joinL (ws.take i) ++ [47]) = true := by
        unfold Lib.hasPrefix
        rw [List.isPrefixOf_iff_prefix]
        exact ⟨joinL (ws.drop i), by simp⟩
      rw [this]; simp
    · have := congrArg List.length h
      simp at this
theorem end_below (a : List UInt8) : belowB (pJoin a [120]) a = true ∧ belowB a (pJoin a [120]) = false ∧ belowB a [] = true := by
  refine ⟨?_, ?_, by simp [belowB]⟩
  · by_cases h : a = []
    · simp [belowB, h]
    · have : Lib.hasPrefix (a ++ 47 :: [120]) (a ++ [47]) = true := by
        unfold Lib.hasPrefix
        rw [List.isPrefixOf_iff_prefix]
        exact ⟨[120], by simp⟩
      simp [belowB, pJoin, h, this]
  · have hlen : ∀ t : List UInt8, a.length < t.length → belowB a t = false := by
      intro t ht
      have h1 : t ≠ [] := fun e => by rw [e] at ht; simp at ht
      have h2 : a ≠ t := fun e => by rw [e] at ht; omega
      have h3 : Lib.hasPrefix a (t ++ [47]) = false := by
        cases hc : Lib.hasPrefix a (t ++ [47]) with
        | false => rfl
        | true =>
          unfold Lib.hasPrefix at hc
          rw [List.isPrefixOf_iff_prefix] at hc
          have := hc.length_le
          simp at this
          omega
      simp [belowB, h1, h2, h3]
    apply hlen
    unfold pJoin
    split <;> (simp; try omega)
end Go.Proofs.Ytifhnpkapgaboaa.path
