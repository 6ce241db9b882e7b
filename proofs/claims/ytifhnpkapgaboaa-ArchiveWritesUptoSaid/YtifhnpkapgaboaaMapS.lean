/-
  Proved: maps with keys that are texts: what they hold, read and written (plain). Conditions: as each theorem says. No program is in sight.
-/
import Derived.WideMake
import Derived.MapKept
import Derived.Test.YtifhnpkapgaboaaHeap
namespace Go.Proofs.Ytifhnpkapgaboaa.maps
open Go.RowKit
open heap
set_option linter.unusedVariables false

abbrev Nm := List UInt8
/-- A map's entry with a key, with its number. -/
def look (k : Nm) : List (Nm × Value) → Nat → Option (Nat × Value)
  | [], _ => none
  | x :: r, i => if k = x.1 then some (i, x.2) else look k r (i + 1)
/-- A map in memory: its entries in a row. -/
def MapS (w : World) (b : Nat) (l : List (Nm × Value)) : Prop :=
  ∃ (es : Array MapEntry) (clock : Nat), w.heap[b]? = some (.map es clock) ∧ es.toList.map (fun e => (e.key, e.val)) = l.map (fun x => (Value.string ⟨x.1.toArray⟩, x.2))
theorem MapS.lt {w : World} {b : Nat} {l : List (Nm × Value)} (h : MapS w b l) : b < w.heap.size := by
  obtain ⟨es, c, h1, _⟩ := h
  exact (Array.getElem?_eq_some_iff.1 h1).1
theorem MapS.kept {w w' : World} {b : Nat} {l : List (Nm × Value)} (h : MapS w b l) (hk : w'.heap[b]? = w.heap[b]?) : MapS w' b l := by
  obtain ⟨es, c, h1, h2⟩ := h
  exact ⟨es, c, by rw [hk]; exact h1, h2⟩
theorem MapS.turned {w w' : World} {b : Nat} {l : List (Nm × Value)} {S : List Nat} (h : MapS w b l) (ht : Turned S w w') (hb : b ∉ S) : MapS w' b l := h.kept (ht.block b h.lt hb)
theorem MapS.new (w : World) : MapS (w.alloc (.map #[] 0)) w.heap.size [] := ⟨#[], 0, blk_new _ _, rfl⟩
theorem str_inj {a b : Nm} : ((⟨a.toArray⟩ : ByteArray) = ⟨b.toArray⟩) ↔ a = b := by
  constructor
  · intro h
    have := congrArg (fun x : ByteArray => x.data.toList) h
    simpa using this
  · rintro rfl; rfl
theorem find_s (k : Nm) : ∀ (es : List MapEntry) (l : List (Nm × Value)) (i : Nat), es.map (fun e => (e.key, e.val)) = l.map (fun x => (Value.string ⟨x.1.toArray⟩, x.2)) → Instr.findNow .string (.string ⟨k.toArray⟩) es i = some (look k l i)
  | [], [], i, _ => rfl
  | [], x :: l, i, h => by simp at h
  | e :: es, [], i, h => by simp at h
  | e :: es, x :: l, i, h => by
    simp only [List.map_cons, List.cons.injEq, Prod.mk.injEq] at h
    obtain ⟨⟨h1, h2⟩, h3⟩ := h
    have ih := find_s k es l (i + 1) h3
    rw [Instr.findNow, h1, look]
    by_cases hk : k = x.1
    · have e1 : Instr.sameNow .string (.string ⟨k.toArray⟩) (.string ⟨x.1.toArray⟩) = some true := by
        simp only [Instr.sameNow]
        congr 1
        rw [MapKept.bytes_beq, hk]
      rw [e1, if_pos hk, h2]
    · have e1 : Instr.sameNow .string (.string ⟨k.toArray⟩) (.string ⟨x.1.toArray⟩) = some false := by
        simp only [Instr.sameNow]
        congr 1
        rw [Bool.eq_false_iff]
        exact fun e => hk (str_inj.1 ((MapKept.bytes_beq _ _).1 e))
      rw [e1, if_neg hk]
      exact ih
section
variable {P : Program} {t kt et : TypeId}
theorem run_lookup {w : World} {b : Nat} {l : List (Nm × Value)} (h : MapS w b l) (ht : P.underlying t = some (.map kt et)) (hk : P.underlying kt = some .string) (z : Value) (hz : (zeroValue et).run P w = .ok z w) (k : Nm) :
    (Instr.lookup t (.map (some b)) (.string ⟨k.toArray⟩) false).run P w = .ok ((look k l 0).map (·.2) |>.getD z) w := by
  obtain ⟨es, c, h1, h2⟩ := h
  have hc : ∀ e, (Instr.checkKey e 10000 kt (.string ⟨k.toArray⟩)).run P w = .ok () w := fun e => MapKept.run_checkKey (k := .string ⟨k.toArray⟩) hk (by simp [MapKept.IsKey]) e 9999
  have hf := find_s k es.toList l 0 h2
  cases hl : look k l 0 with
  | none =>
    rw [hl] at hf
    simp [Instr.lookup, run_underlying ht, MapKept.run_getObj_map h1, hc, MapKept.run_findKey hk hf, hz, Result.andThen]
  | some r =>
    obtain ⟨j, v⟩ := r
    rw [hl] at hf
    simp [Instr.lookup, run_underlying ht, MapKept.run_getObj_map h1, hc, MapKept.run_findKey hk hf, Result.andThen]
theorem run_lookup_ok {w : World} {b : Nat} {l : List (Nm × Value)} (h : MapS w b l) (ht : P.underlying t = some (.map kt et)) (hk : P.underlying kt = some .string) (z : Value) (hz : (zeroValue et).run P w = .ok z w) (k : Nm) :
    (Instr.lookup t (.map (some b)) (.string ⟨k.toArray⟩) true).run P w = .ok (.tuple #[(look k l 0).map (·.2) |>.getD z, .bool (look k l 0).isSome]) w := by
  obtain ⟨es, c, h1, h2⟩ := h
  have hc : ∀ e, (Instr.checkKey e 10000 kt (.string ⟨k.toArray⟩)).run P w = .ok () w := fun e => MapKept.run_checkKey (k := .string ⟨k.toArray⟩) hk (by simp [MapKept.IsKey]) e 9999
  have hf := find_s k es.toList l 0 h2
  cases hl : look k l 0 with
  | none =>
    rw [hl] at hf
    simp [Instr.lookup, run_underlying ht, MapKept.run_getObj_map h1, hc, MapKept.run_findKey hk hf, hz, Result.andThen]
  | some r =>
    obtain ⟨j, v⟩ := r
    rw [hl] at hf
    simp [Instr.lookup, run_underlying ht, MapKept.run_getObj_map h1, hc, MapKept.run_findKey hk hf, Result.andThen]
/-- What a store leaves. -/
def upd (k : Nm) (v : Value) (l : List (Nm × Value)) : List (Nm × Value) := match look k l 0 with
  | some (j, _) => l.set j (k, v)
  | none => l ++ [(k, v)]
theorem look_at {k : Nm} : ∀ {l : List (Nm × Value)} {i j : Nat} {v : Value}, look k l i = some (j, v) → i ≤ j ∧ l[j - i]? = some (k, v)
  | [], i, j, v, h => by simp [look] at h
  | x :: l, i, j, v, h => by
    rw [look] at h
    split at h
    · rename_i hk
      simp only [Option.some.injEq, Prod.mk.injEq] at h
      obtain ⟨rfl, rfl⟩ := h
      refine ⟨Nat.le_refl _, ?_⟩
      simp [hk]
    · obtain ⟨h1, h2⟩ := look_at h
      refine ⟨by omega, ?_⟩
      rw [show j - i = (j - (i + 1)) + 1 by omega]
      simpa using h2
theorem turned_setObj (w : World) (b : Nat) (o : Obj) : Turned [b] w { w with heap := w.heap.setIfInBounds b o } := by
  refine ⟨rfl, rfl, rfl, by simp, fun k hk hn => ?_⟩
  show (w.heap.setIfInBounds b o)[k]? = _
  rw [Array.getElem?_setIfInBounds]
  rw [if_neg (by simp at hn; exact fun e => hn e.symm)]
theorem run_update {w : World} {b : Nat} {l : List (Nm × Value)} (h : MapS w b l) (ht : P.underlying t = some (.map kt et)) (hk : P.underlying kt = some .string) (k : Nm) (v : Value) :
    ∃ w', (Instr.mapUpdate t (.map (some b)) (.string ⟨k.toArray⟩) v).run P w = .ok () w' ∧ MapS w' b (upd k v l) ∧ Turned [b] w w' := by
  obtain ⟨es, c, h1, h2⟩ := h
  have hb : b < w.heap.size := (Array.getElem?_eq_some_iff.1 h1).1
  have hc : ∀ e, (Instr.checkKey e 10000 kt (.string ⟨k.toArray⟩)).run P w = .ok () w := fun e => MapKept.run_checkKey (k := .string ⟨k.toArray⟩) hk (by simp [MapKept.IsKey]) e 9999
  have hf := find_s k es.toList l 0 h2
  cases hl : look k l 0 with
  | none =>
    rw [hl] at hf
    refine ⟨_, by simp [Instr.mapUpdate, run_underlying ht, MapKept.run_getObj_map h1, hc, MapKept.run_findKey hk hf, MapKept.run_setObj_map _ h1, Result.andThen]; rfl, ?_, turned_setObj _ _ _⟩
    refine ⟨_, _, by show (w.heap.setIfInBounds b _)[b]? = _; rw [Array.getElem?_setIfInBounds, if_pos rfl, if_pos hb], ?_⟩
    unfold upd
    rw [hl]
    simp [h2]
  | some r =>
    obtain ⟨j, u⟩ := r
    rw [hl] at hf
    obtain ⟨-, hj⟩ := look_at hl
    rw [Nat.sub_zero] at hj
    have hj2 : es.toList.length = l.length := by simpa using congrArg List.length h2
    have hjl : j < l.length := (List.getElem?_eq_some_iff.1 hj).1
    have hje : j < es.size := by simpa [← hj2] using hjl
    have hkey : (es[j]?.map (·.key)).getD (.string ⟨k.toArray⟩) = .string ⟨k.toArray⟩ := by
      have e1 : (es.toList.map (fun e => (e.key, e.val)))[j]? = (l.map (fun x => (Value.string ⟨x.1.toArray⟩, x.2)))[j]? := by rw [h2]
      rw [List.getElem?_map, List.getElem?_map, hj, Array.getElem?_toList] at e1
      cases he : es[j]? with
      | none => rfl
      | some e => rw [he] at e1; simp at e1; simp [e1]
    have hks : (Instr.keyThatStays (.string ⟨k.toArray⟩) (.string ⟨k.toArray⟩)).run P w = .ok (.string ⟨k.toArray⟩) w := by
      have : ((⟨k.toArray⟩ : ByteArray) == ⟨k.toArray⟩) = true := (MapKept.bytes_beq _ _).2 rfl
      simp [Instr.keyThatStays, Instr.sameBits, this]
    refine ⟨_, by simp [Instr.mapUpdate, run_underlying ht, MapKept.run_getObj_map h1, hc, MapKept.run_findKey hk hf, hkey, hks, MapKept.run_setObj_map _ h1, Result.andThen]; rfl, ?_, turned_setObj _ _ _⟩
    refine ⟨_, _, by show (w.heap.setIfInBounds b _)[b]? = _; rw [Array.getElem?_setIfInBounds, if_pos rfl, if_pos hb], ?_⟩
    unfold upd
    rw [hl]
    apply List.ext_getElem?
    intro n
    have e1 : (es.toList.map (fun e => (e.key, e.val)))[n]? = (l.map (fun x => (Value.string ⟨x.1.toArray⟩, x.2)))[n]? := by rw [h2]
    rw [List.getElem?_map, List.getElem?_map, Array.getElem?_toList] at e1
    rw [List.getElem?_map, List.getElem?_map, Array.getElem?_toList, Array.getElem?_modify]
    by_cases hn : j = n
    · subst hn
      rw [if_pos rfl, List.getElem?_set_self hjl]
      simp [hje]
    · rw [if_neg hn, List.getElem?_set_ne hn]
      exact e1
theorem run_len {w : World} {b : Nat} {l : List (Nm × Value)} (h : MapS w b l) (ty : TypeId) (hs : l.length ≤ 1000000) (tys : Array TypeId) : ∃ es c, w.heap[b]? = some (.map es c) ∧ es.size = l.length := by
  obtain ⟨es, c, h1, h2⟩ := h
  exact ⟨es, c, h1, by simpa using congrArg List.length h2⟩
end
/-- A set: its names with true. -/
abbrev setL (s : List Nm) : List (Nm × Value) := s.map fun x => (x, .bool true)
theorem look_set (k : Nm) : ∀ (s : List Nm) (i : Nat), ((look k (setL s) i).map (·.2)).getD (.bool false) = .bool (s.contains k)
  | [], i => rfl
  | x :: s, i => by
    have ih := look_set k s (i + 1)
    simp only [setL, List.map_cons, look]
    by_cases hk : k = x
    · subst hk; simp
    · rw [if_neg hk, ih]
      simp [hk]
theorem look_set_some (k : Nm) : ∀ (s : List Nm) (i : Nat), (look k (setL s) i).isSome = s.contains k
  | [], i => rfl
  | x :: s, i => by
    have ih := look_set_some k s (i + 1)
    simp only [setL, List.map_cons, look]
    by_cases hk : k = x
    · subst hk; simp
    · rw [if_neg hk, ih]
      simp [hk]
theorem upd_set (k : Nm) (s : List Nm) : upd k (.bool true) (setL s) = setL (if s.contains k then s else s ++ [k]) := by
  have h := look_set_some k s 0
  unfold upd
  cases hl : look k (setL s) 0 with
  | none =>
    rw [hl] at h
    simp at h
    rw [if_neg (by simp [h])]
    simp
  | some r =>
    obtain ⟨j, v⟩ := r
    rw [hl] at h
    rw [if_pos (by simp only [Option.isSome_some] at h; exact h.symm)]
    obtain ⟨-, hj⟩ := look_at hl
    rw [Nat.sub_zero] at hj
    have hv : v = .bool true := by
      simp only [setL, List.getElem?_map, Option.map_eq_some_iff, Prod.mk.injEq] at hj
      obtain ⟨_, _, _, e⟩ := hj
      exact e.symm
    subst hv
    apply List.ext_getElem?
    intro n
    by_cases hn : j = n
    · subst hn
      rw [List.getElem?_set_self (List.getElem?_eq_some_iff.1 hj).1, hj]
    · rw [List.getElem?_set_ne hn]
end Go.Proofs.Ytifhnpkapgaboaa.maps
