/-
  Proved: an image's stream, read and written over a field (plain). Conditions: as each theorem says. No program is in sight.
-/
import Derived.Test.YtifhnpkapgaboaaPk28
import Derived.Test.YtifhnpkapgaboaaPk34
namespace Go.Proofs.Ytifhnpkapgaboaa.arch
open Go Go.RowKit
open path (cleanB belowB)
open fld (Fld applyF Sk apply_sk)
set_option linter.unusedVariables false

/-- An entry as it is applied while it is read. -/
def hd (e : Ent) : Ent := ⟨e.path, e.kind, 0, []⟩
/-- An entry behind its kind, at a place, over a field. -/
def entG (s : Nm) (k : Int) (a : Nat) (es : List Ent) (F : Fld) : Except Flt ((Ent × Fld) × Nat) :=
  if s.length < a + 1 then .error (s.length, 1300)
  else if (s.getD a 0).toNat = 0 ∨ 140 < (s.getD a 0).toNat then .error (a, 1303)
  else if s.length < a + 1 + (s.getD a 0).toNat then .error (s.length, 1300)
  else if pathE es ⟨sub s (a + 1) (s.getD a 0).toNat, k, 0, []⟩ ≠ 0 then .error (a, pathE es ⟨sub s (a + 1) (s.getD a 0).toNat, k, 0, []⟩)
  else match applyF F ⟨sub s (a + 1) (s.getD a 0).toNat, k, 0, []⟩ with
  | none => .error (a, 1305)
  | some F' =>
    if s.length < a + 1 + (s.getD a 0).toNat + 2 then .error (s.length, 1300)
    else if modeB k (num2 s (a + 1 + (s.getD a 0).toNat)) = false then .error (a + 1 + (s.getD a 0).toNat, 1306)
    else if s.length < a + 1 + (s.getD a 0).toNat + 4 then .error (s.length, 1300)
    else if lenB k (num2 s (a + 1 + (s.getD a 0).toNat + 2)) = false then .error (a + 1 + (s.getD a 0).toNat + 2, 1307)
    else if s.length < a + 1 + (s.getD a 0).toNat + 4 + num2 s (a + 1 + (s.getD a 0).toNat + 2) then .error (s.length, 1300)
    else if k = 3 ∧ (0 : UInt8) ∈ sub s (a + 1 + (s.getD a 0).toNat + 4) (num2 s (a + 1 + (s.getD a 0).toNat + 2)) then .error (a + 1 + (s.getD a 0).toNat + 4, 1308)
    else .ok ((⟨sub s (a + 1) (s.getD a 0).toNat, k, num2 s (a + 1 + (s.getD a 0).toNat), sub s (a + 1 + (s.getD a 0).toNat + 4) (num2 s (a + 1 + (s.getD a 0).toNat + 2))⟩, F'), a + 1 + (s.getD a 0).toNat + 4 + num2 s (a + 1 + (s.getD a 0).toNat + 2))
/-- A layer, behind its mark, from a place on. -/
def layG (s : Nm) : Nat → Nat → List Ent → Fld → Except Flt ((List Ent × Fld) × Nat)
  | 0, _, _, _ => .error (0, 0)
  | f + 1, a, es, F =>
    if s.length < a + 1 then .error (s.length, 1300)
    else if (s.getD a 0).toNat = 0 then (if 128 < F.nodes.length then .error (a, 1309) else .ok ((es, F), a + 1))
    else if 5 < (s.getD a 0).toNat then .error (a, 1302)
    else if 256 ≤ es.length then .error (a, 1309)
    else match entG s (s.getD a 0).toNat (a + 1) es F with
      | .error p => .error p
      | .ok ((e, F'), b) => layG s f b (es ++ [e]) F'
def layerG (s : Nm) (a : Nat) (F : Fld) : Except Flt ((List Ent × Fld) × Nat) := match markD s mkL a with
  | .error p => .error p
  | .ok (_, b) => layG s (s.length + 1) b [] F
/-- So many layers more. -/
def laysG (s : Nm) : Nat → Nat → List (List Ent) → Fld → Except Flt (List (List Ent) × Nat)
  | 0, a, ls, _ => .ok (ls, a)
  | m + 1, a, ls, F => match layerG s a F with
    | .error p => .error p
    | .ok ((es, F'), b) => laysG s m b (ls ++ [es]) F'
def F0 : Fld := ⟨[], []⟩
def imgG (s : Nm) : Except Flt (List (List Ent) × Nat) := match markD s mkI 0 with
  | .error p => .error p
  | .ok (_, a) => match numD s a 1 with
    | .error p => .error p
    | .ok (m, b) => if 12 < m then .error (a, 1309) else laysG s m b [] F0
def decI (s : Nm) : Except Flt (List (List Ent)) := readG s (imgG s)
/-- The first fault of a layer. -/
def maysI : List (List Ent) → Nat → Option (Int × Int)
  | [], _ => none
  | es :: r, n => if (formL es).2 ≠ 0 then some (n + (formL es).1, (formL es).2) else maysI r (n + es.length)
def appsL : Fld → List Ent → Nat → Except (Int × Int) (Fld × Nat)
  | F, [], t => .ok (F, t)
  | F, e :: r, t => match applyF F e with
    | none => .error (t, 1305)
    | some F' => appsL F' r (t + 1)
def appsI : Fld → List (List Ent) → Nat → Except (Int × Int) Unit
  | _, [], _ => .ok ()
  | F, es :: r, t => match appsL F es t with
    | .error p => .error p
    | .ok (F', t') => if 128 < F'.nodes.length then .error ((t' : Int) - 1, 1309) else appsI F' r t'
def outI (ls : List (List Ent)) : Nm := mkI ++ ([UInt8.ofNat ls.length] ++ (ls.map streamL).flatten)
def encI (ls : List (List Ent)) : Nm × Int × Int :=
  if 12 < ls.length then ([], 0, 1309)
  else match maysI ls 0 with
  | some p => ([], p.1, p.2)
  | none => match appsI F0 ls 0 with
    | .error p => ([], p.1, p.2)
    | .ok _ => if 65536 < (outI ls).length then ([], 0, 1311) else (outI ls, 0, 0)
/-- The heads of entries applied, one behind the other. -/
def headsF : Fld → List Ent → Option Fld
  | F, [] => some F
  | F, e :: r => match applyF F (hd e) with
    | none => none
    | some F' => headsF F' r
theorem entG_to {s : Nm} {k : Int} {a b : Nat} {es : List Ent} {F F' : Fld} {e : Ent} (h : entG s k a es F = .ok ((e, F'), b)) : entD s k a es = .ok (e, b) ∧ applyF F (hd e) = some F' ∧ e.kind = k := by
  unfold entG at h
  unfold entD
  generalize (s.getD a 0).toNat = n at h ⊢
  by_cases h1 : s.length < a + 1
  · rw [if_pos h1] at h; cases h
  rw [if_neg h1] at h ⊢
  by_cases h2 : n = 0 ∨ 140 < n
  · rw [if_pos h2] at h; cases h
  rw [if_neg h2] at h ⊢
  by_cases h3 : s.length < a + 1 + n
  · rw [if_pos h3] at h; cases h
  rw [if_neg h3] at h ⊢
  by_cases h4 : pathE es ⟨sub s (a + 1) n, k, 0, []⟩ ≠ 0
  · rw [if_pos h4] at h; cases h
  rw [if_neg h4] at h ⊢
  cases hap : applyF F ⟨sub s (a + 1) n, k, 0, []⟩ with
  | none => rw [hap] at h; cases h
  | some F1 =>
  rw [hap] at h
  simp only at h
  by_cases h5 : s.length < a + 1 + n + 2
  · rw [if_pos h5] at h; cases h
  rw [if_neg h5] at h ⊢
  by_cases h6 : modeB k (num2 s (a + 1 + n)) = false
  · rw [if_pos h6] at h; cases h
  rw [if_neg h6] at h ⊢
  by_cases h7 : s.length < a + 1 + n + 4
  · rw [if_pos h7] at h; cases h
  rw [if_neg h7] at h ⊢
  by_cases h8 : lenB k (num2 s (a + 1 + n + 2)) = false
  · rw [if_pos h8] at h; cases h
  rw [if_neg h8] at h ⊢
  by_cases h9 : s.length < a + 1 + n + 4 + num2 s (a + 1 + n + 2)
  · rw [if_pos h9] at h; cases h
  rw [if_neg h9] at h ⊢
  by_cases h10 : k = 3 ∧ (0 : UInt8) ∈ sub s (a + 1 + n + 4) (num2 s (a + 1 + n + 2))
  · rw [if_pos h10] at h; cases h
  rw [if_neg h10] at h ⊢
  cases h
  exact ⟨rfl, hap, rfl⟩
theorem entG_of {s : Nm} {k : Int} {a b : Nat} {es : List Ent} {F F' : Fld} {e : Ent} (h : entD s k a es = .ok (e, b)) (hf : applyF F (hd e) = some F') : entG s k a es F = .ok ((e, F'), b) := by
  unfold entD at h
  unfold entG
  generalize (s.getD a 0).toNat = n at h ⊢
  by_cases h1 : s.length < a + 1
  · rw [if_pos h1] at h; cases h
  rw [if_neg h1] at h ⊢
  by_cases h2 : n = 0 ∨ 140 < n
  · rw [if_pos h2] at h; cases h
  rw [if_neg h2] at h ⊢
  by_cases h3 : s.length < a + 1 + n
  · rw [if_pos h3] at h; cases h
  rw [if_neg h3] at h ⊢
  by_cases h4 : pathE es ⟨sub s (a + 1) n, k, 0, []⟩ ≠ 0
  · rw [if_pos h4] at h; cases h
  rw [if_neg h4] at h ⊢
  by_cases h5 : s.length < a + 1 + n + 2
  · rw [if_pos h5] at h; cases h
  rw [if_neg h5] at h
  by_cases h6 : modeB k (num2 s (a + 1 + n)) = false
  · rw [if_pos h6] at h; cases h
  rw [if_neg h6] at h
  by_cases h7 : s.length < a + 1 + n + 4
  · rw [if_pos h7] at h; cases h
  rw [if_neg h7] at h
  by_cases h8 : lenB k (num2 s (a + 1 + n + 2)) = false
  · rw [if_pos h8] at h; cases h
  rw [if_neg h8] at h
  by_cases h9 : s.length < a + 1 + n + 4 + num2 s (a + 1 + n + 2)
  · rw [if_pos h9] at h; cases h
  rw [if_neg h9] at h
  by_cases h10 : k = 3 ∧ (0 : UInt8) ∈ sub s (a + 1 + n + 4) (num2 s (a + 1 + n + 2))
  · rw [if_pos h10] at h; cases h
  rw [if_neg h10] at h
  cases h
  have hf2 : applyF F ⟨sub s (a + 1) n, k, 0, []⟩ = some F' := hf
  rw [hf2]
  simp only
  rw [if_neg h5, if_neg h6, if_neg h7, if_neg h8, if_neg h9, if_neg h10]
theorem entG_le {s : Nm} {k : Int} {a b : Nat} {es : List Ent} {F F' : Fld} {e : Ent} (h : entG s k a es F = .ok ((e, F'), b)) : a < b ∧ b ≤ s.length ∧ e.path.length ≤ 140 := entD_le (entG_to h).1
theorem drop_one {s : Nm} {a : Nat} (h : a < s.length) : s.drop a = s.getD a 0 :: s.drop (a + 1) := by
  rw [List.drop_eq_getElem_cons h, List.getD_eq_getElem?_getD, List.getElem?_eq_getElem h]
  rfl
theorem drop_sub {s : Nm} (a n : Nat) : s.drop a = sub s a n ++ s.drop (a + n) := by
  unfold sub
  rw [← List.drop_drop, List.take_append_drop]
theorem le2_num (s : Nm) (a : Nat) : le2 (num2 s a) = [s.getD a 0, s.getD (a + 1) 0] := by
  unfold le2 num2
  have h1 := (s.getD a 0).toNat_lt
  have h2 := (s.getD (a + 1) 0).toNat_lt
  have e1 : UInt8.ofNat ((s.getD a 0).toNat + 256 * (s.getD (a + 1) 0).toNat) = s.getD a 0 := by
    apply UInt8.toNat_inj.1
    rw [UInt8.toNat_ofNat']
    omega
  have e2 : UInt8.ofNat (((s.getD a 0).toNat + 256 * (s.getD (a + 1) 0).toNat) / 256) = s.getD (a + 1) 0 := by
    apply UInt8.toNat_inj.1
    rw [UInt8.toNat_ofNat']
    omega
  rw [e1, e2]
def tailS (e : Ent) : Nm := UInt8.ofNat e.path.length :: (e.path ++ (le2 e.mode.toNat ++ (le2 e.data.length ++ e.data)))
theorem ent_tail (e : Ent) : entS e = UInt8.ofNat e.kind.toNat :: tailS e := rfl
theorem sub_len {s : Nm} {a n : Nat} (h : a + n ≤ s.length) : (sub s a n).length = n := by unfold sub; rw [List.length_take, List.length_drop]; omega
/-- What is read as an entry are its bytes. -/
theorem ent_bytes {s : Nm} {k : Int} {a b : Nat} {es : List Ent} {e : Ent} (h : entD s k a es = .ok (e, b)) : e.kind = k ∧ s.drop a = tailS e ++ s.drop b ∧ a < b ∧ b ≤ s.length ∧ (1 ≤ k → k ≤ 5 → entF es e = 0) := by
  unfold entD at h
  obtain ⟨n, hn⟩ : ∃ n, (s.getD a 0).toNat = n := ⟨_, rfl⟩
  rw [hn] at h
  by_cases h1 : s.length < a + 1
  · rw [if_pos h1] at h; cases h
  rw [if_neg h1] at h
  by_cases h2 : n = 0 ∨ 140 < n
  · rw [if_pos h2] at h; cases h
  rw [if_neg h2] at h
  by_cases h3 : s.length < a + 1 + n
  · rw [if_pos h3] at h; cases h
  rw [if_neg h3] at h
  by_cases h4 : pathE es ⟨sub s (a + 1) n, k, 0, []⟩ ≠ 0
  · rw [if_pos h4] at h; cases h
  rw [if_neg h4] at h
  by_cases h5 : s.length < a + 1 + n + 2
  · rw [if_pos h5] at h; cases h
  rw [if_neg h5] at h
  by_cases h6 : modeB k (num2 s (a + 1 + n)) = false
  · rw [if_pos h6] at h; cases h
  rw [if_neg h6] at h
  by_cases h7 : s.length < a + 1 + n + 4
  · rw [if_pos h7] at h; cases h
  rw [if_neg h7] at h
  by_cases h8 : lenB k (num2 s (a + 1 + n + 2)) = false
  · rw [if_pos h8] at h; cases h
  rw [if_neg h8] at h
  by_cases h9 : s.length < a + 1 + n + 4 + num2 s (a + 1 + n + 2)
  · rw [if_pos h9] at h; cases h
  rw [if_neg h9] at h
  by_cases h10 : k = 3 ∧ (0 : UInt8) ∈ sub s (a + 1 + n + 4) (num2 s (a + 1 + n + 2))
  · rw [if_pos h10] at h; cases h
  rw [if_neg h10] at h
  cases h
  have hd := le2_num s (a + 1 + n + 2)
  have hm := le2_num s (a + 1 + n)
  have hl := sub_len (s := s) (a := a + 1 + n + 4) (n := num2 s (a + 1 + n + 2)) (by omega)
  have hp := sub_len (s := s) (a := a + 1) (n := n) (by omega)
  refine ⟨rfl, ?_, by omega, by omega, fun hk1 hk5 => ?_⟩
  · unfold tailS
    show _ = (UInt8.ofNat (sub s (a + 1) n).length :: (sub s (a + 1) n ++ (le2 (num2 s (a + 1 + n) : Int).toNat ++ (le2 (sub s (a + 1 + n + 4) (num2 s (a + 1 + n + 2))).length ++ sub s (a + 1 + n + 4) (num2 s (a + 1 + n + 2)))))) ++ _
    rw [hp, hl, Int.toNat_natCast, hd, hm, drop_one (show a < s.length by omega), drop_sub (a + 1) n, drop_one (show a + 1 + n < s.length by omega), drop_one (show a + 1 + n + 1 < s.length by omega), drop_one (show a + 1 + n + 1 + 1 < s.length by omega), drop_one (show a + 1 + n + 1 + 1 + 1 < s.length by omega), drop_sub (a + 1 + n + 1 + 1 + 1 + 1) (num2 s (a + 1 + n + 2)), ← hn, UInt8.ofNat_toNat]
    simp
  · unfold entF
    rw [if_neg (show ¬ (k < 1 ∨ 5 < k) by omega)]
    rw [if_neg (show ¬ pathE es ⟨sub s (a + 1) n, k, (num2 s (a + 1 + n) : Nat), sub s (a + 1 + n + 4) (num2 s (a + 1 + n + 2))⟩ ≠ 0 from h4)]
    rw [if_neg h6]
    rw [if_neg (by rw [hl]; exact h8), if_neg h10]
theorem get_of_drop {s r : Nm} {a : Nat} {x : UInt8} (h : s.drop a = x :: r) : s.getD a 0 = x ∧ s.drop (a + 1) = r ∧ a + 1 ≤ s.length := by
  have hl : a < s.length := by
    apply Classical.byContradiction
    intro hn
    rw [List.drop_eq_nil_of_le (by omega)] at h
    cases h
  rw [drop_one hl] at h
  injection h with h1 h2
  exact ⟨h1, h2, hl⟩
theorem sub_of_drop {s x r : Nm} {a : Nat} (h : s.drop a = x ++ r) (ha : a ≤ s.length) : sub s a x.length = x ∧ s.drop (a + x.length) = r ∧ a + x.length ≤ s.length := by
  have hl := congrArg List.length h
  rw [List.length_drop, List.length_append] at hl
  refine ⟨?_, ?_, by omega⟩
  · unfold sub; rw [h, List.take_left']; rfl
  · rw [← List.drop_drop, h, List.drop_left']; rfl
theorem num_of_drop {s r : Nm} {a m : Nat} (h : s.drop a = le2 m ++ r) (hm : m < 65536) : num2 s a = m ∧ s.drop (a + 2) = r ∧ a + 2 ≤ s.length := by
  unfold le2 at h
  obtain ⟨h1, h2, h3⟩ := get_of_drop (show s.drop a = _ :: (_ :: r) from h)
  obtain ⟨h4, h5, h6⟩ := get_of_drop h2
  refine ⟨?_, h5, h6⟩
  unfold num2
  rw [h1, h4, UInt8.toNat_ofNat', UInt8.toNat_ofNat']
  omega
/-- The bytes of an entry that may be are read as it. -/
theorem ent_fwd {s r : Nm} {a : Nat} {es : List Ent} {e : Ent} (h : s.drop a = tailS e ++ r) (he : entF es e = 0) : ∃ b, entD s e.kind a es = .ok (e, b) ∧ s.drop b = r ∧ a < b ∧ b ≤ s.length := by
  obtain ⟨k1, k5, hp0, hpl, hm0, hm1, hdl⟩ := ent_ok he
  obtain ⟨p, k, m, d⟩ := e
  simp only at k1 k5 hp0 hpl hm0 hm1 hdl
  unfold tailS at h
  simp only [List.cons_append, List.append_assoc] at h
  obtain ⟨g1, g2, g3⟩ := get_of_drop h
  obtain ⟨g4, g5, g6⟩ := sub_of_drop g2 g3
  obtain ⟨g7, g8, g9⟩ := num_of_drop g5 (show m.toNat < 65536 by omega)
  obtain ⟨g10, g11, g12⟩ := num_of_drop g8 (show d.length < 65536 by omega)
  obtain ⟨g13, g14, g15⟩ := sub_of_drop g11 g12
  have hn : (s.getD a 0).toNat = p.length := by rw [g1, UInt8.toNat_ofNat']; omega
  have hpz : p.length ≠ 0 := fun h0 => hp0 (List.length_eq_zero_iff.1 h0)
  have hmm : ((m.toNat : Nat) : Int) = m := by omega
  unfold entF at he
  simp only at he
  rw [if_neg (show ¬ (k < 1 ∨ 5 < k) by omega)] at he
  have hpe : ¬ pathE es ⟨p, k, 0, []⟩ ≠ 0 := by
    intro hc
    rw [if_pos (show pathE es ⟨p, k, m, d⟩ ≠ 0 from hc)] at he
    exact hc he
  rw [if_neg (show ¬ pathE es ⟨p, k, m, d⟩ ≠ 0 from hpe)] at he
  by_cases h6 : modeB k m = false
  · rw [if_pos h6] at he; exact absurd he (by decide)
  rw [if_neg h6] at he
  by_cases h8 : lenB k d.length = false
  · rw [if_pos h8] at he; exact absurd he (by decide)
  rw [if_neg h8] at he
  by_cases h10 : k = 3 ∧ (0 : UInt8) ∈ d
  · rw [if_pos h10] at he; exact absurd he (by decide)
  refine ⟨a + 1 + p.length + 2 + 2 + d.length, ?_, g14, by omega, g15⟩
  unfold entD
  rw [hn, g4, show a + 1 + p.length + 4 = a + 1 + p.length + 2 + 2 by omega, g10, g7, g13, hmm]
  rw [if_neg (by omega), if_neg (by omega), if_neg (by omega), if_neg hpe, if_neg (by omega), if_neg h6, if_neg (by omega), if_neg h8, if_neg (by omega), if_neg h10]
end Go.Proofs.Ytifhnpkapgaboaa.arch
