/-
  Proved: plain facts on layers: which entries may be, the program's questions are the document's. Conditions: as each theorem says. No program is in sight.
  Proved: plain facts on reading a layer's stream: its least fault hangs on nothing behind it. Conditions: as each theorem says. No program is in sight.
-/
import Derived.Test.YtifhnpkapgaboaaPk10
namespace Go.Proofs.Ytifhnpkapgaboaa.arch
open Go Go.RowKit
open path (cleanB cleanR piecesL partsL joinL nameE belowB)
set_option linter.unusedVariables false

abbrev Nm := List UInt8
/-- An entry of a layer. -/
structure Ent where
  path : Nm
  kind : Int
  mode : Int
  data : Nm
deriving DecidableEq
/-- The row of paths: 47 counts as less than any other byte. -/
def lessB : Nm → Nm → Bool
  | _, [] => false
  | [], _ :: _ => true
  | a :: r, b :: s => if a = b then lessB r s else a == 47 || (b != 47 && decide (a < b))
/-- Two texts, byte by byte. -/
def cmpT : Nm → Nm → Int
  | [], [] => 0
  | [], _ :: _ => -1
  | _ :: _, [] => 1
  | a :: r, b :: s => if a = b then cmpT r s else if a < b then -1 else 1
/-- Two rows of texts. -/
def cmpP : List Nm → List Nm → Int
  | [], [] => 0
  | [], _ :: _ => -1
  | _ :: _, [] => 1
  | p :: ps, q :: qs => if cmpT p q = 0 then cmpP ps qs else cmpT p q
theorem cmpT_cons (c : UInt8) (p q : Nm) : cmpT (c :: p) (c :: q) = cmpT p q := by rw [cmpT, if_pos rfl]
theorem pieces_cons (c : UInt8) (r : Nm) (h : c ≠ 47) : ∃ p ps, piecesL r = p :: ps ∧ piecesL (c :: r) = (c :: p) :: ps := by
  cases hr : piecesL r with
  | nil => exact absurd hr (path.piecesL_ne r)
  | cons p ps =>
    refine ⟨p, ps, rfl, ?_⟩
    rw [piecesL, if_neg h, hr]
theorem cmp_pieces : ∀ (a b : Nm), cmpP (piecesL a) (piecesL b) = if a = b then 0 else if lessB a b then -1 else 1
  | [], [] => rfl
  | [], d :: s => by
    rw [if_neg (by simp)]
    by_cases h : d = 47
    · subst h
      rw [piecesL, piecesL, if_pos rfl]
      cases hs : piecesL s with
      | nil => exact absurd hs (path.piecesL_ne s)
      | cons q qs => rfl
    · obtain ⟨q, qs, hs, hb⟩ := pieces_cons d s h
      rw [hb]
      rfl
  | c :: r, [] => by
    rw [if_neg (by simp)]
    by_cases h : c = 47
    · subst h
      rw [piecesL, piecesL, if_pos rfl]
      cases hs : piecesL r with
      | nil => exact absurd hs (path.piecesL_ne r)
      | cons q qs => rfl
    · obtain ⟨q, qs, hs, hb⟩ := pieces_cons c r h
      rw [hb]
      rfl
  | c :: r, d :: s => by
    have ih := cmp_pieces r s
    by_cases hcd : c = d
    · subst hcd
      rw [lessB, if_pos rfl]
      simp only [List.cons.injEq, true_and]
      rw [← ih]
      by_cases h : c = 47
      · subst h
        rw [piecesL, piecesL, if_pos rfl, if_pos rfl, cmpP, if_pos (show cmpT [] [] = 0 from rfl)]
      · obtain ⟨p, ps, hp, ha⟩ := pieces_cons c r h
        obtain ⟨q, qs, hq, hb⟩ := pieces_cons c s h
        rw [ha, hb, hp, hq, cmpP, cmpP, cmpT_cons]
    · rw [if_neg (fun e => hcd (List.cons.inj e).1), lessB, if_neg hcd]
      by_cases hc : c = 47
      · subst hc
        obtain ⟨q, qs, hq, hb⟩ := pieces_cons d s (fun e => hcd e.symm)
        rw [hb, piecesL, if_pos rfl, cmpP]
        simp [cmpT]
      · obtain ⟨p, ps, hp, ha⟩ := pieces_cons c r hc
        by_cases hd : d = 47
        · subst hd
          rw [ha, piecesL, if_pos rfl, cmpP]
          simp [cmpT, hc]
        · obtain ⟨q, qs, hq, hb⟩ := pieces_cons d s hd
          rw [ha, hb, cmpP, cmpT, if_neg hcd]
          by_cases hlt : c < d
          · simp [hlt, hd]
          · simp [hlt, hc]
/-- How two paths stand in the row of entries. -/
def cmpE (a b : Nm) : Int := cmpP (partsL a) (partsL b)
theorem cmp_less (a b : Nm) : decide (0 ≤ cmpE a b) = !lessB a b := by
  unfold cmpE partsL
  by_cases ha : a = []
  · subst ha
    by_cases hb : b = []
    · subst hb; rfl
    · rw [if_pos rfl, if_neg hb]
      cases hq : piecesL b with
      | nil => exact absurd hq (path.piecesL_ne b)
      | cons q qs =>
        cases b with
        | nil => exact absurd rfl hb
        | cons d s => rfl
  · by_cases hb : b = []
    · subst hb
      rw [if_neg ha, if_pos rfl]
      cases hq : piecesL a with
      | nil => exact absurd hq (path.piecesL_ne a)
      | cons q qs =>
        cases a with
        | nil => exact absurd rfl ha
        | cons d s => rfl
    · rw [if_neg ha, if_neg hb, cmp_pieces]
      by_cases hab : a = b
      · subst hab
        have : ∀ l : Nm, lessB l l = false := fun l => by
          induction l with
          | nil => rfl
          | cons x l ih => rw [lessB, if_pos rfl]; exact ih
        rw [if_pos rfl, this a]; rfl
      · rw [if_neg hab]
        cases lessB a b <;> rfl
theorem join_pieces (l : Nm) : joinL (piecesL l) = l := by
  induction l with
  | nil => rfl
  | cons c r ih =>
    by_cases h : c = 47
    · subst h
      rw [piecesL, if_pos rfl]
      cases hp : piecesL r with
      | nil => exact absurd hp (path.piecesL_ne r)
      | cons p ps =>
        rw [hp] at ih
        rw [path.joinL_cons, ih]; rfl
    · obtain ⟨p, ps, hp, ha⟩ := pieces_cons c r h
      rw [ha]
      rw [hp] at ih
      cases ps with
      | nil => rw [path.joinL_one] at ih ⊢; rw [ih]
      | cons q qs =>
        rw [path.joinL_cons] at ih ⊢
        rw [List.cons_append, ih]
/-- The program's question whether a path may be is the document's. -/
theorem clean_iff (p : Nm) : ((cleanR [] (47 :: p)).2 = 0 ∧ p ≠ [] ∧ (cleanR [] (47 :: p)).1 = p) ↔ (p ≠ [] ∧ cleanB p = true) := by
  constructor
  · rintro ⟨h1, h2, h3⟩
    obtain ⟨hc, -, -, ws, hw, hj, h8, h140, -⟩ := path.clean_ok [] (47 :: p) h1
    have hg := path.wayW_good _ _ _ hw (path.start_good [] (47 :: p) hc)
    rw [h3] at hj
    refine ⟨h2, ?_⟩
    rw [hj]
    exact path.clean_join ws hg h8 h140
  · rintro ⟨h2, hc⟩
    obtain ⟨h8, h140, hg⟩ := (path.clean_parts p).1 hc
    have hj : joinL (partsL p) = p := by unfold partsL; rw [if_neg h2]; exact join_pieces p
    have := path.clean_root [] (partsL p) (by rfl) hg h8 (by rw [hj]; exact h140)
    rw [hj] at this
    rw [this]
    exact ⟨rfl, h2, rfl⟩
/-- Does an entry lie below another one that is no directory? -/
def parB (e x : Ent) : Bool := x.kind != 1 && x.kind != 5 && belowB e.path x.path
def modeB (k m : Int) : Bool := if k = 3 then m == 511 else if k = 4 then m == 0 else decide (0 ≤ m) && decide (m ≤ 511)
def lenB (k : Int) (n : Nat) : Bool := if k = 2 then decide (n ≤ 1024) else if k = 3 then decide (1 ≤ n) && decide (n ≤ 64) else n == 0
def lastP (es : List Ent) : Nm := (es.getLast?.map Ent.path).getD []
/-- The fault of a path behind others. -/
def pathE (es : List Ent) (e : Ent) : Int :=
  if e.path = [] ∨ cleanB e.path = false then 1303 else if es ≠ [] ∧ lessB (lastP es) e.path = false then 1304 else if es.any (parB e) then 1305 else 0
def entF (es : List Ent) (e : Ent) : Int :=
  if e.kind < 1 ∨ 5 < e.kind then 1302 else if pathE es e ≠ 0 then pathE es e else if modeB e.kind e.mode = false then 1306 else if lenB e.kind e.data.length = false then 1307 else if e.kind = 3 ∧ (0 : UInt8) ∈ e.data then 1308 else 0
def e0 : Ent := ⟨[], 0, 0, []⟩
/-- The first fault from entry i on. -/
def formG (es : List Ent) : Nat → Nat → Int × Int
  | 0, _ => (0, 0)
  | f + 1, i => if entF (es.take i) (es.getD i e0) = 0 then formG es f (i + 1) else ((i : Int), entF (es.take i) (es.getD i e0))
def formL (es : List Ent) : Int × Int := if 256 < es.length then (0, 1309) else formG es es.length 0
def le2 (n : Nat) : Nm := [UInt8.ofNat n, UInt8.ofNat (n / 256)]
def entS (e : Ent) : Nm := UInt8.ofNat e.kind.toNat :: UInt8.ofNat e.path.length :: (e.path ++ (le2 e.mode.toNat ++ (le2 e.data.length ++ e.data)))
def bodyS (es : List Ent) : Nm := (es.map entS).flatten
def streamL (es : List Ent) : Nm := [79, 82, 76] ++ bodyS es ++ [0]
def encL (es : List Ent) : Nm × Int × Int := if (formL es).2 ≠ 0 then ([], formL es) else if 65536 < (streamL es).length then ([], 0, 1311) else (streamL es, 0, 0)
theorem body_snoc (es : List Ent) (i : Nat) (e : Ent) (h : es[i]? = some e) : bodyS (es.take (i + 1)) = bodyS (es.take i) ++ entS e := by
  unfold bodyS
  rw [List.take_add_one, h, List.map_append, List.flatten_append]
  simp
/-- What may be has numbers in their bytes. -/
theorem ent_ok {es : List Ent} {e : Ent} (h : entF es e = 0) : 1 ≤ e.kind ∧ e.kind ≤ 5 ∧ e.path ≠ [] ∧ e.path.length ≤ 140 ∧ 0 ≤ e.mode ∧ e.mode ≤ 511 ∧ e.data.length ≤ 1024 := by
  unfold entF at h
  split at h
  · exact absurd h (by decide)
  · rename_i hk
    split at h
    · rename_i hp; exact absurd h hp
    · rename_i hp
      have hp0 : pathE es e = 0 := Classical.byContradiction hp
      split at h
      · exact absurd h (by decide)
      · rename_i hm
        split at h
        · exact absurd h (by decide)
        · rename_i hl
          have hpath : e.path ≠ [] ∧ e.path.length ≤ 140 := by
            unfold pathE at hp0
            split at hp0
            · exact absurd hp0 (by decide)
            · rename_i h1
              refine ⟨fun e1 => h1 (.inl e1), ?_⟩
              have hc : cleanB e.path = true := by
                cases hb : cleanB e.path with
                | true => rfl
                | false => exact absurd (.inr hb) h1
              exact ((path.clean_parts e.path).1 hc).2.1
          have hm2 : 0 ≤ e.mode ∧ e.mode ≤ 511 := by
            have hm1 : modeB e.kind e.mode = true := by simpa using hm
            unfold modeB at hm1
            split at hm1
            · have := eq_of_beq hm1; omega
            · split at hm1
              · have := eq_of_beq hm1; omega
              · rw [Bool.and_eq_true, decide_eq_true_iff, decide_eq_true_iff] at hm1; exact hm1
          have hl2 : e.data.length ≤ 1024 := by
            have hl1 : lenB e.kind e.data.length = true := by simpa using hl
            unfold lenB at hl1
            split at hl1
            · exact of_decide_eq_true hl1
            · split at hl1
              · rw [Bool.and_eq_true, decide_eq_true_iff, decide_eq_true_iff] at hl1; omega
              · have := eq_of_beq hl1; omega
          exact ⟨by omega, by omega, hpath.1, hpath.2, hm2.1, hm2.2, hl2⟩
end Go.Proofs.Ytifhnpkapgaboaa.arch

namespace Go.Proofs.Ytifhnpkapgaboaa.arch
open Go Go.RowKit
open path (cleanB)
set_option linter.unusedVariables false

abbrev Flt := Nat × Int
/-- A number of two bytes. -/
def num2 (s : Nm) (a : Nat) : Nat := (s.getD a 0).toNat + 256 * (s.getD (a + 1) 0).toNat
def sub (s : Nm) (a n : Nat) : Nm := (s.drop a).take n
/-- An entry behind its kind, at a place. -/
def entD (s : Nm) (k : Int) (a : Nat) (es : List Ent) : Except Flt (Ent × Nat) :=
  if s.length < a + 1 then .error (s.length, 1300)
  else if (s.getD a 0).toNat = 0 ∨ 140 < (s.getD a 0).toNat then .error (a, 1303)
  else if s.length < a + 1 + (s.getD a 0).toNat then .error (s.length, 1300)
  else if pathE es ⟨sub s (a + 1) (s.getD a 0).toNat, k, 0, []⟩ ≠ 0 then .error (a, pathE es ⟨sub s (a + 1) (s.getD a 0).toNat, k, 0, []⟩)
  else if s.length < a + 1 + (s.getD a 0).toNat + 2 then .error (s.length, 1300)
  else if modeB k (num2 s (a + 1 + (s.getD a 0).toNat)) = false then .error (a + 1 + (s.getD a 0).toNat, 1306)
  else if s.length < a + 1 + (s.getD a 0).toNat + 4 then .error (s.length, 1300)
  else if lenB k (num2 s (a + 1 + (s.getD a 0).toNat + 2)) = false then .error (a + 1 + (s.getD a 0).toNat + 2, 1307)
  else if s.length < a + 1 + (s.getD a 0).toNat + 4 + num2 s (a + 1 + (s.getD a 0).toNat + 2) then .error (s.length, 1300)
  else if k = 3 ∧ (0 : UInt8) ∈ sub s (a + 1 + (s.getD a 0).toNat + 4) (num2 s (a + 1 + (s.getD a 0).toNat + 2)) then .error (a + 1 + (s.getD a 0).toNat + 4, 1308)
  else .ok (⟨sub s (a + 1) (s.getD a 0).toNat, k, num2 s (a + 1 + (s.getD a 0).toNat), sub s (a + 1 + (s.getD a 0).toNat + 4) (num2 s (a + 1 + (s.getD a 0).toNat + 2))⟩, a + 1 + (s.getD a 0).toNat + 4 + num2 s (a + 1 + (s.getD a 0).toNat + 2))
/-- A layer, behind its mark, from a place on. -/
def layD (s : Nm) : Nat → Nat → List Ent → Except Flt (List Ent × Nat)
  | 0, _, _ => .error (0, 0)
  | f + 1, a, es =>
    if s.length < a + 1 then .error (s.length, 1300)
    else if (s.getD a 0).toNat = 0 then .ok (es, a + 1)
    else if 5 < (s.getD a 0).toNat then .error (a, 1302)
    else if 256 ≤ es.length then .error (a, 1309)
    else match entD s (s.getD a 0).toNat (a + 1) es with
      | .error p => .error p
      | .ok (e, b) => layD s f b (es ++ [e])
def mkL : Nm := [79, 82, 76]
def decD (s : Nm) : Except Flt (List Ent) :=
  if 65536 < s.length then .error (0, 1311)
  else if s.take 3 ≠ mkL then .error (0, 1301)
  else match layD s (s.length + 1) 3 [] with
    | .error p => .error p
    | .ok (es, a) => if a < s.length then .error (a, 1310) else .ok es
theorem get_more (s t : Nm) (a : Nat) (h : a < s.length) : (s ++ t).getD a 0 = s.getD a 0 := by
  rw [List.getD_eq_getElem?_getD, List.getD_eq_getElem?_getD, List.getElem?_append_left h]
theorem sub_more (s t : Nm) (a n : Nat) (h : a + n ≤ s.length) : sub (s ++ t) a n = sub s a n := by
  unfold sub
  rw [List.drop_append_of_le_length (by omega), List.take_append_of_le_length (by rw [List.length_drop]; omega)]
theorem num_more (s t : Nm) (a : Nat) (h : a + 2 ≤ s.length) : num2 (s ++ t) a = num2 s a := by
  unfold num2
  rw [get_more s t a (by omega), get_more s t (a + 1) (by omega)]
theorem ent_more (s t : Nm) (k : Int) (a : Nat) (es : List Ent) : (∀ p, entD s k a es = .error p → p.2 ≠ 1300 → entD (s ++ t) k a es = .error p) ∧ (∀ r, entD s k a es = .ok r → entD (s ++ t) k a es = .ok r) := by
  have hl : (s ++ t).length = s.length + t.length := List.length_append
  by_cases h1 : s.length < a + 1
  · have : entD s k a es = .error (s.length, 1300) := by unfold entD; rw [if_pos h1]
    rw [this]
    exact ⟨fun p hp hn => absurd rfl (by cases hp; exact hn), fun r hr => by cases hr⟩
  have g1 := get_more s t a (by omega)
  unfold entD
  rw [g1]
  generalize (s.getD a 0).toNat = n
  rw [if_neg h1, if_neg (show ¬ (s ++ t).length < a + 1 by omega)]
  by_cases h2 : n = 0 ∨ 140 < n
  · rw [if_pos h2, if_pos h2]; exact ⟨fun p hp _ => hp, fun r hr => hr⟩
  rw [if_neg h2, if_neg h2]
  by_cases h3 : s.length < a + 1 + n
  · rw [if_pos h3]
    exact ⟨fun p hp hn => absurd rfl (by cases hp; exact hn), fun r hr => by cases hr⟩
  rw [if_neg h3, if_neg (show ¬ (s ++ t).length < a + 1 + n by omega), sub_more s t (a + 1) n (by omega)]
  generalize hp : pathE es ⟨sub s (a + 1) n, k, 0, []⟩ = c
  by_cases h4 : c ≠ 0
  · rw [if_pos h4, if_pos h4]; exact ⟨fun p hp _ => hp, fun r hr => hr⟩
  rw [if_neg h4, if_neg h4]
  by_cases h5 : s.length < a + 1 + n + 2
  · rw [if_pos h5]
    exact ⟨fun p hp hn => absurd rfl (by cases hp; exact hn), fun r hr => by cases hr⟩
  rw [if_neg h5, if_neg (show ¬ (s ++ t).length < a + 1 + n + 2 by omega), num_more s t (a + 1 + n) (by omega)]
  generalize num2 s (a + 1 + n) = m
  by_cases h6 : modeB k m = false
  · rw [if_pos h6, if_pos h6]; exact ⟨fun p hp _ => hp, fun r hr => hr⟩
  rw [if_neg h6, if_neg h6]
  by_cases h7 : s.length < a + 1 + n + 4
  · rw [if_pos h7]
    exact ⟨fun p hp hn => absurd rfl (by cases hp; exact hn), fun r hr => by cases hr⟩
  rw [if_neg h7, if_neg (show ¬ (s ++ t).length < a + 1 + n + 4 by omega), num_more s t (a + 1 + n + 2) (by omega)]
  generalize num2 s (a + 1 + n + 2) = q
  by_cases h8 : lenB k q = false
  · rw [if_pos h8, if_pos h8]; exact ⟨fun p hp _ => hp, fun r hr => hr⟩
  rw [if_neg h8, if_neg h8]
  by_cases h9 : s.length < a + 1 + n + 4 + q
  · rw [if_pos h9]
    exact ⟨fun p hp hn => absurd rfl (by cases hp; exact hn), fun r hr => by cases hr⟩
  rw [if_neg h9, if_neg (show ¬ (s ++ t).length < a + 1 + n + 4 + q by omega), sub_more s t (a + 1 + n + 4) q (by omega)]
  exact ⟨fun p hp _ => hp, fun r hr => hr⟩
theorem lay_more (s t : Nm) (f : Nat) : ∀ (f2 a : Nat) (es : List Ent) (p : Flt), f ≤ f2 → layD s f a es = .error p → p.2 ≠ 1300 → p.2 ≠ 0 → layD (s ++ t) f2 a es = .error p := by
  have hl : (s ++ t).length = s.length + t.length := List.length_append
  induction f with
  | zero => intro f2 a es p _ h _ h0; rw [layD] at h; cases h; exact absurd rfl h0
  | succ f ih =>
    intro f2 a es p hf h hn h0
    obtain ⟨f3, rfl⟩ : ∃ f3, f2 = f3 + 1 := ⟨f2 - 1, by omega⟩
    rw [layD] at h ⊢
    by_cases h1 : s.length < a + 1
    · rw [if_pos h1] at h; cases h; exact absurd rfl hn
    rw [if_neg h1] at h
    rw [if_neg (show ¬ (s ++ t).length < a + 1 by omega), get_more s t a (by omega)]
    by_cases h2 : (s.getD a 0).toNat = 0
    · rw [if_pos h2] at h; cases h
    rw [if_neg h2] at h ⊢
    by_cases h3 : 5 < (s.getD a 0).toNat
    · rw [if_pos h3] at h ⊢; exact h
    rw [if_neg h3] at h ⊢
    by_cases h4 : 256 ≤ es.length
    · rw [if_pos h4] at h ⊢; exact h
    rw [if_neg h4] at h ⊢
    obtain ⟨m1, m2⟩ := ent_more s t (s.getD a 0).toNat (a + 1) es
    cases he : entD s (s.getD a 0).toNat (a + 1) es with
    | error q =>
      rw [he] at h
      cases h
      rw [m1 _ he hn]
    | ok r =>
      obtain ⟨e, b⟩ := r
      rw [he] at h
      rw [m2 _ he]
      exact ih f3 b _ p (by omega) h hn h0
theorem dec_more (s t : Nm) (p : Flt) (h : decD s = .error p) (h0 : p.2 ≠ 0) (h1 : p.2 ≠ 1300) (h2 : p.2 ≠ 1310) (hl : (s ++ t).length ≤ 65536) (ha : p.1 + 143 ≤ s.length) : decD (s ++ t) = .error p := by
  have hlen : (s ++ t).length = s.length + t.length := List.length_append
  unfold decD at h ⊢
  rw [if_neg (by omega)] at h ⊢
  have ht : (s ++ t).take 3 = s.take 3 := by rw [List.take_append_of_le_length (by omega)]
  rw [ht]
  by_cases h3 : s.take 3 ≠ mkL
  · rw [if_pos h3] at h ⊢; exact h
  rw [if_neg h3] at h ⊢
  cases hd : layD s (s.length + 1) 3 [] with
  | error q =>
    rw [hd] at h
    cases h
    rw [lay_more s t _ ((s ++ t).length + 1) 3 [] _ (by omega) hd h1 h0]
  | ok r =>
    obtain ⟨es, a⟩ := r
    rw [hd] at h
    simp only at h
    split at h
    · cases h; exact absurd rfl h2
    · cases h
/-- The fault of decD: where its numbers lie. -/
theorem pathE_ne (es : List Ent) (e : Ent) : pathE es e = 0 ∨ pathE es e = 1303 ∨ pathE es e = 1304 ∨ pathE es e = 1305 := by
  unfold pathE
  split
  · exact .inr (.inl rfl)
  · split
    · exact .inr (.inr (.inl rfl))
    · split
      · exact .inr (.inr (.inr rfl))
      · exact .inl rfl
end Go.Proofs.Ytifhnpkapgaboaa.arch
