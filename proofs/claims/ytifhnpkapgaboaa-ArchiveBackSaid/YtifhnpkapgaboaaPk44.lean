/-
  Proved: what is read of an image's stream is written as it stood, what is written is read as it was; where a fault lies (plain). Conditions: as each theorem says. No program is in sight.
-/
import Derived.Test.YtifhnpkapgaboaaPk35
import Derived.Test.YtifhnpkapgaboaaPk43
namespace Go.Proofs.Ytifhnpkapgaboaa.arch
open Go Go.RowKit
open path (cleanB belowB)
open fld (Fld applyF Sk apply_sk)
set_option linter.unusedVariables false

theorem entG_place {s : Nm} {k : Int} {a : Nat} {es : List Ent} {F : Fld} {p : Flt} (h : entG s k a es F = .error p) : p.1 ≤ s.length ∧ p.2 ≠ 0 := by
  refine ⟨?_, ?_⟩
  · unfold entG at h
    refine ite_place h (Nat.le_refl _) fun h1 h => ?_
    refine ite_place h (by simp; omega) fun _ h => ?_
    refine ite_place h (Nat.le_refl _) fun h2 h => ?_
    refine ite_place h (by simp; omega) fun _ h => ?_
    cases hap : applyF F ⟨sub s (a + 1) (s.getD a 0).toNat, k, 0, []⟩ with
    | none => rw [hap] at h; cases h; simp; omega
    | some F' =>
      rw [hap] at h
      simp only at h
      refine ite_place h (Nat.le_refl _) fun h3 h => ?_
      refine ite_place h (by simp only; omega) fun _ h => ?_
      refine ite_place h (Nat.le_refl _) fun h4 h => ?_
      refine ite_place h (by simp only; omega) fun _ h => ?_
      refine ite_place h (Nat.le_refl _) fun h5 h => ?_
      refine ite_place h (by simp only; omega) fun _ h => ?_
      cases h
  · intro h0
    unfold entG at h
    split at h
    · cases h; exact absurd h0 (by simp)
    split at h
    · cases h; exact absurd h0 (by simp)
    split at h
    · cases h; exact absurd h0 (by simp)
    split at h
    · rename_i hp; cases h; exact absurd h0 hp
    split at h
    · cases h; exact absurd h0 (by simp)
    split at h
    · cases h; exact absurd h0 (by simp)
    split at h
    · cases h; exact absurd h0 (by simp)
    split at h
    · cases h; exact absurd h0 (by simp)
    split at h
    · cases h; exact absurd h0 (by simp)
    split at h
    · cases h; exact absurd h0 (by simp)
    split at h
    · cases h; exact absurd h0 (by simp)
    cases h
theorem layG_place {s : Nm} : ∀ (f a : Nat) (es : List Ent) (F : Fld) {p : Flt}, layG s f a es F = .error p → s.length < f + a ∧ a ≤ s.length → p.1 ≤ s.length ∧ p.2 ≠ 0
  | 0, a, es, F, p, h, hf => by omega
  | f + 1, a, es, F, p, h, hf => by
    rw [layG] at h
    by_cases h1 : s.length < a + 1
    · rw [if_pos h1] at h; cases h; exact ⟨Nat.le_refl _, by simp⟩
    rw [if_neg h1] at h
    by_cases h2 : (s.getD a 0).toNat = 0
    · rw [if_pos h2] at h
      by_cases h3 : 128 < F.nodes.length
      · rw [if_pos h3] at h; cases h; exact ⟨by show a ≤ s.length; omega, by show (1309 : Int) ≠ 0; decide⟩
      · rw [if_neg h3] at h; cases h
    rw [if_neg h2] at h
    by_cases h3 : 5 < (s.getD a 0).toNat
    · rw [if_pos h3] at h; cases h; exact ⟨by show a ≤ s.length; omega, by show (1302 : Int) ≠ 0; decide⟩
    rw [if_neg h3] at h
    by_cases h4 : 256 ≤ es.length
    · rw [if_pos h4] at h; cases h; exact ⟨by show a ≤ s.length; omega, by show (1309 : Int) ≠ 0; decide⟩
    rw [if_neg h4] at h
    cases he : entG s (s.getD a 0).toNat (a + 1) es F with
    | error q => rw [he] at h; cases h; exact entG_place he
    | ok r =>
      obtain ⟨⟨e, F1⟩, b1⟩ := r
      rw [he] at h
      have := entG_le he
      exact layG_place f b1 _ _ h (by omega)
theorem layerG_place {s : Nm} {a : Nat} {F : Fld} {p : Flt} (ha : a ≤ s.length) (h : layerG s a F = .error p) : p.1 ≤ s.length ∧ p.2 ≠ 0 := by
  unfold layerG markD at h
  by_cases hm : mkL.isPrefixOf (s.drop a) = true
  · rw [if_pos hm] at h
    have hml := mark_len hm
    exact layG_place _ _ _ _ h (by omega)
  · rw [if_neg hm] at h
    cases h
    exact ⟨ha, by simp⟩
theorem layG_end {s : Nm} : ∀ (f a : Nat) (es : List Ent) (F : Fld) {r : List Ent × Fld} {b : Nat}, layG s f a es F = .ok (r, b) → a < b ∧ b ≤ s.length
  | 0, a, es, F, r, b, h => by rw [layG] at h; cases h
  | f + 1, a, es, F, r, b, h => by
    rw [layG] at h
    by_cases h1 : s.length < a + 1
    · rw [if_pos h1] at h; cases h
    rw [if_neg h1] at h
    by_cases h2 : (s.getD a 0).toNat = 0
    · rw [if_pos h2] at h
      by_cases h3 : 128 < F.nodes.length
      · rw [if_pos h3] at h; cases h
      · rw [if_neg h3] at h; cases h; omega
    rw [if_neg h2] at h
    by_cases h3 : 5 < (s.getD a 0).toNat
    · rw [if_pos h3] at h; cases h
    rw [if_neg h3] at h
    by_cases h4 : 256 ≤ es.length
    · rw [if_pos h4] at h; cases h
    rw [if_neg h4] at h
    cases he : entG s (s.getD a 0).toNat (a + 1) es F with
    | error q => rw [he] at h; cases h
    | ok x =>
      obtain ⟨⟨e, F1⟩, b1⟩ := x
      rw [he] at h
      have k1 := entG_le he
      have k2 := layG_end f b1 _ _ h
      omega
theorem layerG_end {s : Nm} {a b : Nat} {F : Fld} {r : List Ent × Fld} (h : layerG s a F = .ok (r, b)) : a < b ∧ b ≤ s.length := by
  unfold layerG markD at h
  by_cases hm : mkL.isPrefixOf (s.drop a) = true
  · rw [if_pos hm] at h
    have := layG_end _ _ _ _ h
    simp [mkL] at this
    omega
  · rw [if_neg hm] at h
    cases h
theorem laysG_place {s : Nm} : ∀ (m a : Nat) (ls : List (List Ent)) (F : Fld) {p : Flt}, a ≤ s.length → laysG s m a ls F = .error p → p.1 ≤ s.length ∧ p.2 ≠ 0
  | 0, a, ls, F, p, ha, h => by rw [laysG] at h; cases h
  | m + 1, a, ls, F, p, ha, h => by
    rw [laysG] at h
    cases he : layerG s a F with
    | error q => rw [he] at h; cases h; exact layerG_place ha he
    | ok x =>
      obtain ⟨⟨es, F1⟩, b1⟩ := x
      rw [he] at h
      exact laysG_place m b1 _ _ (layerG_end he).2 h
theorem mark_back {s m : Nm} {a : Nat} (h : m.isPrefixOf (s.drop a) = true) : s.drop a = m ++ s.drop (a + m.length) := by
  obtain ⟨t, ht⟩ := List.isPrefixOf_iff_prefix.1 h
  rw [← List.drop_drop, ← ht, List.drop_left]
theorem mark_fwd {s m r : Nm} {a : Nat} (h : s.drop a = m ++ r) : markD s m a = .ok ((), a + m.length) ∧ s.drop (a + m.length) = r := by
  refine ⟨?_, ?_⟩
  · unfold markD
    rw [if_pos (List.isPrefixOf_iff_prefix.2 ⟨r, h.symm⟩)]
  · rw [← List.drop_drop, h, List.drop_left]
theorem decI_place {s : Nm} {p : Flt} (h : decI s = .error p) : p.1 ≤ s.length ∧ p.2 ≠ 0 := by
  unfold decI readG at h
  by_cases h0 : 65536 < s.length
  · rw [if_pos h0] at h; cases h; exact ⟨Nat.zero_le _, by decide⟩
  rw [if_neg h0] at h
  cases hi : imgG s with
  | error q =>
    rw [hi] at h
    cases h
    unfold imgG at hi
    cases hm : markD s mkI 0 with
    | error q => rw [hm] at hi; cases hi; unfold markD at hm; split at hm <;> cases hm; exact ⟨Nat.zero_le _, by decide⟩
    | ok x =>
      obtain ⟨u, a⟩ := x
      rw [hm] at hi
      simp only at hi
      have ha : a ≤ s.length := by
        unfold markD at hm
        by_cases hp : mkI.isPrefixOf (s.drop 0) = true
        · rw [if_pos hp] at hm
          cases hm
          have := mark_len hp
          simpa using this
        · rw [if_neg hp] at hm; cases hm
      unfold numD at hi
      by_cases h1 : s.length < a + 1
      · rw [if_pos h1] at hi; cases hi; exact ⟨Nat.le_refl _, by simp⟩
      rw [if_neg h1] at hi
      simp only at hi
      by_cases h2 : 12 < numV s a 1
      · rw [if_pos h2] at hi; cases hi; exact ⟨ha, by show (1309 : Int) ≠ 0; decide⟩
      rw [if_neg h2] at hi
      exact laysG_place _ _ _ _ (by omega) hi
  | ok x =>
    obtain ⟨ls, a⟩ := x
    rw [hi] at h
    simp only at h
    by_cases h1 : a < s.length
    · rw [if_pos h1] at h; cases h; exact ⟨by show a ≤ s.length; omega, by show (1310 : Int) ≠ 0; decide⟩
    · rw [if_neg h1] at h; cases h
theorem body_cons (e : Ent) (r : List Ent) : bodyS (e :: r) = entS e ++ bodyS r := by simp [bodyS]
theorem lay_back {s : Nm} : ∀ (f a : Nat) (es : List Ent) (F : Fld) (es' : List Ent) (F' : Fld) (b : Nat), layG s f a es F = .ok ((es', F'), b) →
    ∃ new, es' = es ++ new ∧ s.drop a = bodyS new ++ ([0] ++ s.drop b) ∧ (∀ i x, es.length ≤ i → es'[i]? = some x → entF (es'.take i) x = 0) ∧ headsF F new = some F' ∧ (es.length ≤ 256 → es'.length ≤ 256) ∧ F'.nodes.length ≤ 128
  | 0, a, es, F, es', F', b, h => by rw [layG] at h; cases h
  | f + 1, a, es, F, es', F', b, h => by
    rw [layG] at h
    by_cases h1 : s.length < a + 1
    · rw [if_pos h1] at h; cases h
    rw [if_neg h1] at h
    have h1' : a < s.length := by omega
    by_cases h2 : (s.getD a 0).toNat = 0
    · rw [if_pos h2] at h
      by_cases h3 : 128 < F.nodes.length
      · rw [if_pos h3] at h; cases h
      rw [if_neg h3] at h
      cases h
      refine ⟨[], by simp, ?_, fun i x hi hx => ?_, rfl, id, by omega⟩
      · rw [drop_one h1']
        have : s.getD a 0 = 0 := UInt8.toNat_inj.1 (by rw [h2]; rfl)
        rw [this]
        rfl
      · have := (List.getElem?_eq_some_iff.1 hx).1
        omega
    rw [if_neg h2] at h
    by_cases h3 : 5 < (s.getD a 0).toNat
    · rw [if_pos h3] at h; cases h
    rw [if_neg h3] at h
    by_cases h4 : 256 ≤ es.length
    · rw [if_pos h4] at h; cases h
    rw [if_neg h4] at h
    cases he : entG s (s.getD a 0).toNat (a + 1) es F with
    | error q => rw [he] at h; cases h
    | ok x =>
      obtain ⟨⟨e, F1⟩, b1⟩ := x
      rw [he] at h
      obtain ⟨g1, g2, g3⟩ := entG_to he
      obtain ⟨k1, k2, k3, k4, k5⟩ := ent_bytes g1
      obtain ⟨new, n1, n2, n5, n6, n7, n8⟩ := lay_back f b1 (es ++ [e]) F1 es' F' b h
      refine ⟨e :: new, by rw [n1]; simp, ?_, fun i x hi hx => ?_, ?_, fun hl => n7 (by simp; omega), n8⟩
      · rw [drop_one h1', k2, n2, body_cons, ent_tail, k1, Int.toNat_natCast, UInt8.ofNat_toNat]
        simp
      · by_cases hie : i = es.length
        · subst hie
          rw [n1] at hx ⊢
          rw [List.append_assoc, List.getElem?_append_right (Nat.le_refl _)] at hx
          simp at hx
          subst hx
          rw [List.append_assoc, List.take_left']
          · exact k5 (by omega) (by omega)
          · rfl
        · exact n5 i x (by simp; omega) hx
      · rw [headsF, g2]
        exact n6
theorem lay_fwd {s : Nm} : ∀ (new : List Ent) (f a : Nat) (es : List Ent) (F F' : Fld) (r : Nm), s.drop a = bodyS new ++ (0 :: r) → new.length < f → (∀ i x, es.length ≤ i → (es ++ new)[i]? = some x → entF ((es ++ new).take i) x = 0) →
    headsF F new = some F' → (es ++ new).length ≤ 256 → F'.nodes.length ≤ 128 → ∃ b, layG s f a es F = .ok ((es ++ new, F'), b) ∧ s.drop b = r ∧ b ≤ s.length
  | new, 0, a, es, F, F', r, h, hf, _, _, _, _ => by omega
  | [], f + 1, a, es, F, F', r, h, hf, he, hh, hl, hn => by
    obtain ⟨g1, g2, g3⟩ := get_of_drop (show s.drop a = 0 :: r from h)
    rw [headsF] at hh
    cases hh
    rw [layG, if_neg (by omega), if_pos (by rw [g1]; rfl), if_neg (by omega), List.append_nil]
    exact ⟨_, rfl, g2, g3⟩
  | e :: new, f + 1, a, es, F, F', r, h, hf, he, hh, hl, hn => by
    rw [body_cons, ent_tail] at h
    simp only [List.cons_append, List.append_assoc] at h
    obtain ⟨g1, g2, g3⟩ := get_of_drop h
    have hee : entF es e = 0 := by
      have := he es.length e (Nat.le_refl _) (by rw [List.getElem?_append_right (Nat.le_refl _)]; simp)
      rwa [List.take_left'] at this
      rfl
    obtain ⟨k1, k5, -⟩ := ent_ok hee
    have hk : (((s.getD a 0).toNat : Nat) : Int) = e.kind := by rw [g1, UInt8.toNat_ofNat']; omega
    obtain ⟨b, e1, e2, e3, e4⟩ := ent_fwd g2 hee
    rw [headsF] at hh
    cases hap : applyF F (hd e) with
    | none => rw [hap] at hh; cases hh
    | some F1 =>
      rw [hap] at hh
      have hG := entG_of e1 hap
      simp only [List.length_append, List.length_cons] at hl hf
      rw [layG, if_neg (by omega), if_neg (by omega), if_neg (by omega), if_neg (by omega), hk, hG]
      obtain ⟨b2, f1, f2, f3⟩ := lay_fwd new f b (es ++ [e]) F1 F' r e2 (by omega) (fun i x hi hx => by
        rw [show es ++ [e] ++ new = es ++ e :: new by simp] at hx ⊢
        exact he i x (by simp at hi; omega) hx) hh (by simp; omega) hn
      rw [show es ++ [e] ++ new = es ++ e :: new by simp] at f1
      exact ⟨b2, f1, f2, f3⟩
theorem formG_zero (es : List Ent) (h : ∀ i x, es[i]? = some x → entF (es.take i) x = 0) : ∀ (f i : Nat), i + f ≤ es.length → formG es f i = (0, 0)
  | 0, i, _ => rfl
  | f + 1, i, hi => by
    obtain ⟨x, hx⟩ : ∃ x, es[i]? = some x := ⟨_, List.getElem?_eq_getElem (by omega)⟩
    rw [formG_step es f i x hx, if_pos (h i x hx)]
    exact formG_zero es h f (i + 1) (by omega)
theorem formL_zero {es : List Ent} (h : ∀ i x, es[i]? = some x → entF (es.take i) x = 0) (hl : es.length ≤ 256) : formL es = (0, 0) := by
  unfold formL
  rw [if_neg (by omega)]
  exact formG_zero es h _ _ (by omega)
theorem formL_all {es : List Ent} (h : (formL es).2 = 0) : es.length ≤ 256 ∧ ∀ i x, es[i]? = some x → entF (es.take i) x = 0 := by
  have h1 := (form_ok h).1
  refine ⟨h1, fun i x hx => ?_⟩
  unfold formL at h
  rw [if_neg (by omega)] at h
  exact formG_ok es es.length 0 h i x (Nat.zero_le _) (by have := (List.getElem?_eq_some_iff.1 hx).1; omega) hx
theorem body_ge (es : List Ent) : es.length ≤ (bodyS es).length := by
  induction es with
  | nil => exact Nat.zero_le _
  | cons e r ih =>
    rw [body_cons, List.length_append, ent_tail]
    simp only [List.length_cons]
    omega
theorem layer_back {s : Nm} {a b : Nat} {F F' : Fld} {es : List Ent} (h : layerG s a F = .ok ((es, F'), b)) : s.drop a = streamL es ++ s.drop b ∧ (formL es).2 = 0 ∧ headsF F es = some F' ∧ F'.nodes.length ≤ 128 := by
  unfold layerG markD at h
  by_cases hm : mkL.isPrefixOf (s.drop a) = true
  · rw [if_pos hm] at h
    obtain ⟨new, n1, n2, n5, n6, n7, n8⟩ := lay_back _ _ _ _ _ _ _ h
    rw [List.nil_append] at n1
    subst n1
    refine ⟨?_, ?_, n6, n8⟩
    · rw [mark_back hm, n2]
      unfold streamL mkL
      simp
    · rw [formL_zero (fun i x hx => n5 i x (Nat.zero_le _) hx) (n7 (by simp))]
  · rw [if_neg hm] at h
    cases h
theorem layer_fwd {s r : Nm} {a : Nat} {F F' : Fld} {es : List Ent} (h : s.drop a = streamL es ++ r) (hf : (formL es).2 = 0) (hh : headsF F es = some F') (hn : F'.nodes.length ≤ 128) : ∃ b, layerG s a F = .ok ((es, F'), b) ∧ s.drop b = r ∧ b ≤ s.length := by
  obtain ⟨h1, h2⟩ := formL_all hf
  have e1 : s.drop a = mkL ++ (bodyS es ++ (0 :: r)) := by rw [h]; unfold streamL mkL; simp
  obtain ⟨m1, m2⟩ := mark_fwd e1
  have hl := congrArg List.length m2
  rw [List.length_drop, List.length_append] at hl
  have hb := body_ge es
  have hx := lay_fwd es (s.length + 1) (a + mkL.length) [] F F' r m2 (by omega) (fun i x _ hx => h2 i x hx) hh (by simpa using h1) hn
  obtain ⟨b, f1, f2, f3⟩ := hx
  refine ⟨b, ?_, f2, f3⟩
  unfold layerG
  rw [m1]
  exact f1
theorem apps_of {es : List Ent} : ∀ {F F' G : Fld} (t : Nat), headsF F es = some F' → Sk F G → ∃ G', appsL G es t = .ok (G', t + es.length) ∧ Sk F' G' := by
  induction es with
  | nil => intro F F' G t h hs; rw [headsF] at h; cases h; exact ⟨G, rfl, hs⟩
  | cons e r ih =>
    intro F F' G t h hs
    rw [headsF] at h
    rw [appsL]
    rcases apply_sk hs (e := hd e) (e' := e) rfl rfl with ⟨h1, h2⟩ | ⟨F1, G1, h1, h2, h3⟩
    · rw [h1] at h; cases h
    · rw [h1] at h
      rw [h2]
      obtain ⟨G', k1, k2⟩ := ih (t + 1) h h3
      exact ⟨G', by rw [show t + (e :: r).length = t + 1 + r.length by simp; omega]; exact k1, k2⟩
theorem heads_of {es : List Ent} : ∀ {F G G' : Fld} {t t' : Nat}, appsL G es t = .ok (G', t') → Sk F G → t' = t + es.length ∧ ∃ F', headsF F es = some F' ∧ Sk F' G' := by
  induction es with
  | nil => intro F G G' t t' h hs; rw [appsL] at h; cases h; exact ⟨rfl, F, rfl, hs⟩
  | cons e r ih =>
    intro F G G' t t' h hs
    rw [appsL] at h
    rw [headsF]
    rcases apply_sk hs (e := hd e) (e' := e) rfl rfl with ⟨h1, h2⟩ | ⟨F1, G1, h1, h2, h3⟩
    · rw [h2] at h; cases h
    · rw [h2] at h
      rw [h1]
      obtain ⟨k1, k2⟩ := ih h h3
      exact ⟨by rw [k1]; simp; omega, k2⟩
theorem lays_back {s : Nm} : ∀ (m a : Nat) (ls : List (List Ent)) (F : Fld) (ls' : List (List Ent)) (b : Nat) (G : Fld) (t : Nat), a ≤ s.length → laysG s m a ls F = .ok (ls', b) → Sk F G →
    ∃ new, ls' = ls ++ new ∧ new.length = m ∧ s.drop a = (new.map streamL).flatten ++ s.drop b ∧ b ≤ s.length ∧ (∀ es ∈ new, (formL es).2 = 0) ∧ appsI G new t = .ok ()
  | 0, a, ls, F, ls', b, G, t, ha, h, hs => by
    rw [laysG] at h
    cases h
    exact ⟨[], by simp, rfl, by simp, ha, by simp, rfl⟩
  | m + 1, a, ls, F, ls', b, G, t, ha, h, hs => by
    rw [laysG] at h
    cases he : layerG s a F with
    | error q => rw [he] at h; cases h
    | ok x =>
      obtain ⟨⟨es, F1⟩, b1⟩ := x
      rw [he] at h
      obtain ⟨k1, k2, k3, k4⟩ := layer_back he
      obtain ⟨G1, g1, g2⟩ := apps_of t k3 hs
      obtain ⟨new, n1, n2, n3, n4, n5, n6⟩ := lays_back m b1 (ls ++ [es]) F1 ls' b G1 (t + es.length) (layerG_end he).2 h g2
      refine ⟨es :: new, by rw [n1]; simp, by simp [n2], ?_, n4, fun x hx => ?_, ?_⟩
      · rw [k1, n3]; simp
      · rcases List.mem_cons.1 hx with rfl | hx
        · exact k2
        · exact n5 x hx
      · rw [appsI, g1]
        simp only
        rw [if_neg (by rw [← g2.len]; omega)]
        exact n6
theorem lays_fwd {s : Nm} : ∀ (new : List (List Ent)) (a : Nat) (ls : List (List Ent)) (F G : Fld) (t : Nat) (r : Nm), a ≤ s.length → s.drop a = (new.map streamL).flatten ++ r → (∀ es ∈ new, (formL es).2 = 0) → Sk F G → appsI G new t = .ok () →
    ∃ b, laysG s new.length a ls F = .ok (ls ++ new, b) ∧ s.drop b = r ∧ b ≤ s.length
  | [], a, ls, F, G, t, r, ha, h, hf, hs, hi => ⟨a, by simp [laysG], by simpa using h, ha⟩
  | es :: new, a, ls, F, G, t, r, ha, h, hf, hs, hi => by
    rw [appsI] at hi
    cases hap : appsL G es t with
    | error p => rw [hap] at hi; cases hi
    | ok x =>
      obtain ⟨G1, t1⟩ := x
      rw [hap] at hi
      simp only at hi
      by_cases hn : 128 < G1.nodes.length
      · rw [if_pos hn] at hi; cases hi
      rw [if_neg hn] at hi
      obtain ⟨-, F1, f1, f2⟩ := heads_of hap hs
      obtain ⟨b, k1, k2, k3⟩ := layer_fwd (es := es) (r := (new.map streamL).flatten ++ r) (by rw [h]; simp) (hf es (List.mem_cons_self ..)) f1 (by rw [f2.len]; omega)
      obtain ⟨b2, q1, q2, q3⟩ := lays_fwd new b (ls ++ [es]) F1 G1 t1 r k3 k2 (fun x hx => hf x (List.mem_cons_of_mem _ hx)) f2 hi
      refine ⟨b2, ?_, q2, q3⟩
      rw [List.length_cons, laysG, k1]
      simp only
      rw [q1]
      simp
theorem mays_none : ∀ (ls : List (List Ent)) (n : Nat), (∀ es ∈ ls, (formL es).2 = 0) → maysI ls n = none
  | [], n, _ => rfl
  | es :: r, n, h => by
    rw [maysI, if_neg (by rw [h es (List.mem_cons_self ..)]; simp)]
    exact mays_none r _ fun x hx => h x (List.mem_cons_of_mem _ hx)
theorem mays_all : ∀ (ls : List (List Ent)) (n : Nat), maysI ls n = none → ∀ es ∈ ls, (formL es).2 = 0
  | [], n, _, es, h => by cases h
  | x :: r, n, h, es, he => by
    rw [maysI] at h
    by_cases h1 : (formL x).2 ≠ 0
    · rw [if_pos h1] at h; cases h
    · rw [if_neg h1] at h
      rcases List.mem_cons.1 he with rfl | he
      · exact Classical.byContradiction h1
      · exact mays_all r _ h es he
theorem mays_ne : ∀ (ls : List (List Ent)) (n : Nat) {p : Int × Int}, maysI ls n = some p → p.2 ≠ 0
  | [], n, p, h => by cases h
  | x :: r, n, p, h => by
    rw [maysI] at h
    by_cases h1 : (formL x).2 ≠ 0
    · rw [if_pos h1] at h; cases h; exact h1
    · rw [if_neg h1] at h; exact mays_ne r _ h
theorem appsL_ne : ∀ (es : List Ent) (F : Fld) (t : Nat) {p : Int × Int}, appsL F es t = .error p → p.2 ≠ 0
  | [], F, t, p, h => by cases h
  | e :: r, F, t, p, h => by
    rw [appsL] at h
    cases ha : applyF F e with
    | none => rw [ha] at h; cases h; show (1305 : Int) ≠ 0; decide
    | some F1 => rw [ha] at h; exact appsL_ne r F1 _ h
theorem appsI_ne : ∀ (ls : List (List Ent)) (F : Fld) (t : Nat) {p : Int × Int}, appsI F ls t = .error p → p.2 ≠ 0
  | [], F, t, p, h => by cases h
  | es :: r, F, t, p, h => by
    rw [appsI] at h
    cases ha : appsL F es t with
    | error q => rw [ha] at h; cases h; exact appsL_ne es F t ha
    | ok x =>
      obtain ⟨F1, t1⟩ := x
      rw [ha] at h
      simp only at h
      by_cases hn : 128 < F1.nodes.length
      · rw [if_pos hn] at h; cases h; show (1309 : Int) ≠ 0; decide
      · rw [if_neg hn] at h; exact appsI_ne r F1 _ h
theorem dec_enc {s : Nm} {ls : List (List Ent)} (h : decI s = .ok ls) : encI ls = (s, 0, 0) := by
  unfold decI readG at h
  by_cases h0 : 65536 < s.length
  · rw [if_pos h0] at h; cases h
  rw [if_neg h0] at h
  cases hi : imgG s with
  | error q => rw [hi] at h; cases h
  | ok x =>
    obtain ⟨ls', b⟩ := x
    rw [hi] at h
    simp only at h
    by_cases hb : b < s.length
    · rw [if_pos hb] at h; cases h
    rw [if_neg hb] at h
    cases h
    unfold imgG markD at hi
    by_cases hp : mkI.isPrefixOf (s.drop 0) = true
    · rw [if_pos hp] at hi
      simp only at hi
      have hmk := mark_back hp
      have hml := mark_len hp
      have e3 : 0 + mkI.length = 3 := rfl
      rw [e3] at hi hmk
      unfold numD at hi
      by_cases h1 : s.length < 3 + 1
      · rw [if_pos h1] at hi; cases hi
      rw [if_neg h1] at hi
      simp only at hi
      by_cases h2 : 12 < numV s 3 1
      · rw [if_pos h2] at hi; cases hi
      rw [if_neg h2] at hi
      obtain ⟨new, n1, n2, n3, n4, n5, n6⟩ := lays_back _ _ _ _ _ _ F0 0 (by omega) hi (Sk.refl _)
      rw [List.nil_append] at n1
      subst n1
      have hbe : s.drop b = [] := List.drop_eq_nil_of_le (by omega)
      rw [hbe, List.append_nil] at n3
      have hout : outI ls = s := by
        unfold outI
        rw [n2, show numV s 3 1 = (s.getD 3 0).toNat from rfl, UInt8.ofNat_toNat, ← n3, List.singleton_append, ← drop_one (show 3 < s.length by omega), ← hmk, List.drop_zero]
      unfold encI
      rw [if_neg (by omega), mays_none _ _ n5]
      simp only
      rw [n6]
      simp only
      rw [hout, if_neg h0]
    · rw [if_neg hp] at hi; cases hi
theorem enc_none {ls : List (List Ent)} (h : (encI ls).2.2 ≠ 0) : (encI ls).1 = [] := by
  unfold encI at h ⊢
  split
  · rfl
  · rename_i h1
    rw [if_neg h1] at h
    split
    · rfl
    · rename_i h2
      rw [h2] at h
      simp only at h
      split
      · rfl
      · rename_i h3
        rw [h3] at h
        simp only at h
        split
        · rfl
        · rename_i h4
          rw [if_neg h4] at h
          exact absurd rfl h
theorem enc_dec {ls : List (List Ent)} (h : (encI ls).2.2 = 0) : decI (encI ls).1 = .ok ls := by
  unfold encI at h ⊢
  by_cases h1 : 12 < ls.length
  · rw [if_pos h1] at h; exact absurd h (by decide)
  rw [if_neg h1] at h ⊢
  cases h2 : maysI ls 0 with
  | some p => rw [h2] at h; exact absurd h (mays_ne _ _ h2)
  | none =>
  rw [h2] at h
  simp only at h ⊢
  cases h3 : appsI F0 ls 0 with
  | error p => rw [h3] at h; exact absurd h (appsI_ne _ _ _ h3)
  | ok u =>
  rw [h3] at h
  simp only at h ⊢
  by_cases h4 : 65536 < (outI ls).length
  · rw [if_pos h4] at h; exact absurd h (by decide)
  rw [if_neg h4]
  show decI (outI ls) = _
  obtain ⟨s, hs⟩ : ∃ s, outI ls = s := ⟨_, rfl⟩
  rw [hs] at h4 ⊢
  have e0 : s.drop 0 = mkI ++ ([UInt8.ofNat ls.length] ++ (ls.map streamL).flatten) := by rw [List.drop_zero, ← hs]; rfl
  obtain ⟨m1, m2⟩ := mark_fwd e0
  have e3 : 0 + mkI.length = 3 := rfl
  rw [e3] at m1 m2
  obtain ⟨g1, g2, g3⟩ := get_of_drop (show s.drop 3 = UInt8.ofNat ls.length :: (ls.map streamL).flatten from m2)
  have hn : numV s 3 1 = ls.length := by
    show (s.getD 3 0).toNat = _
    rw [g1, UInt8.toNat_ofNat']
    omega
  obtain ⟨b, k1, k2, k3⟩ := lays_fwd ls 4 [] F0 F0 0 [] g3 (by rw [List.append_nil]; exact g2) (mays_all _ _ h2) (Sk.refl _) h3
  have hbl : ¬ b < s.length := by
    intro hb
    have := congrArg List.length k2
    rw [List.length_drop] at this
    simp at this
    omega
  unfold decI readG
  rw [if_neg h4]
  unfold imgG
  rw [m1]
  simp only
  unfold numD
  rw [if_neg (by omega), hn]
  simp only
  rw [if_neg h1, k1]
  simp only
  rw [if_neg hbl]
  rfl
end Go.Proofs.Ytifhnpkapgaboaa.arch
