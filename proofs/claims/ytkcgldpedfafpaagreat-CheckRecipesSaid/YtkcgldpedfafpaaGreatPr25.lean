/-
  Proved: maps with keys that are texts: what they hold, read and written (plain). Conditions: as each theorem says. No program is in sight.
  Proved: what fail, functions and the deferred functions of package check do. Conditions: as each theorem says.
  Proved: what the deferred functions of package check do. Conditions: as each theorem says.
  Proved: what look's deferred function does. Conditions: as each theorem says.
  Proved: what the checker's node does. Conditions: as each theorem says.
-/
import Derived.WideMake
import Derived.MapKept
import Derived.Test.YtkcgldpedfafpaaGreatPr7
import Derived.Test.YtkcgldpedfafpaaGreatPr24
import Derived.Defers
import Derived.Recover
namespace Go.Proofs.YtkcgldpedfafpaaGreat.maps
open Go.RowKit
open heap
set_option linter.unusedVariables false

abbrev Nm := List UInt8
/-- A map's entry with a key, with its number. -/
def look (k : Nm) : List (Nm × Value) → Nat → Option (Nat × Value)
 | [], _ => none
 | x :: r, i => if k = x.1 then some (i, x.2) else look k r (i + 1)
/-- A map in memory: its entries in a row. -/
def MapS (w : World) (b : Nat) (l : List (Nm × Value)) : Prop :=
 ∃ (es : Array MapEntry) (clock : Nat), w.heap[b]? = some (.map es clock) ∧ es.toList.map (fun e => (e.key, e.val)) = l.map (fun x => (Value.string ⟨x.1.toArray⟩, x.2))
theorem MapS.lt {w : World} {b : Nat} {l : List (Nm × Value)} (h : MapS w b l) : b < w.heap.size := by
 obtain ⟨es, c, h1, _⟩ := h
 exact (Array.getElem?_eq_some_iff.1 h1).1
theorem MapS.kept {w w' : World} {b : Nat} {l : List (Nm × Value)} (h : MapS w b l) (hk : w'.heap[b]? = w.heap[b]?) : MapS w' b l := by
 obtain ⟨es, c, h1, h2⟩ := h
 exact ⟨es, c, by rw [hk]; exact h1, h2⟩
theorem MapS.turned {w w' : World} {b : Nat} {l : List (Nm × Value)} {S : List Nat} (h : MapS w b l) (ht : Turned S w w') (hb : b ∉ S) : MapS w' b l := h.kept (ht.block b h.lt hb)
theorem MapS.new (w : World) : MapS (w.alloc (.map #[] 0)) w.heap.size [] := ⟨#[], 0, blk_new _ _, rfl⟩
theorem str_inj {a b : Nm} : ((⟨a.toArray⟩ : ByteArray) = ⟨b.toArray⟩) ↔ a = b := by
 constructor
 ·intro h
  have := congrArg (fun x : ByteArray => x.data.toList) h
  simpa using this
 ·rintro rfl; rfl
theorem find_s (k : Nm) : ∀ (es : List MapEntry) (l : List (Nm × Value)) (i : Nat), es.map (fun e => (e.key, e.val)) = l.map (fun x => (Value.string ⟨x.1.toArray⟩, x.2)) → Instr.findNow .string (.string ⟨k.toArray⟩) es i = some (look k l i)
 | [], [], i, _ => rfl
 | [], x :: l, i, h => by simp at h
 | e :: es, [], i, h => by simp at h
 | e :: es, x :: l, i, h => by
  simp only [List.map_cons, List.cons.injEq, Prod.mk.injEq] at h
  obtain ⟨⟨h1, h2⟩, h3⟩ := h
  have ih := find_s k es l (i + 1) h3
  rw [Instr.findNow, h1, look]
  by_cases hk : k = x.1
  ·have e1 : Instr.sameNow .string (.string ⟨k.toArray⟩) (.string ⟨x.1.toArray⟩) = some true := by
    simp only [Instr.sameNow]
    congr 1
    rw [MapKept.bytes_beq, hk]
   rw [e1, if_pos hk, h2]
  ·have e1 : Instr.sameNow .string (.string ⟨k.toArray⟩) (.string ⟨x.1.toArray⟩) = some false := by
    simp only [Instr.sameNow]
    congr 1
    rw [Bool.eq_false_iff]
    exact fun e => hk (str_inj.1 ((MapKept.bytes_beq _ _).1 e))
   rw [e1, if_neg hk]
   exact ih
section
variable {P : Program} {t kt et : TypeId}
theorem run_lookup {w : World} {b : Nat} {l : List (Nm × Value)} (h : MapS w b l) (ht : P.underlying t = some (.map kt et)) (hk : P.underlying kt = some .string) (z : Value) (hz : (zeroValue et).run P w = .ok z w) (k : Nm) :
  (Instr.lookup t (.map (some b)) (.string ⟨k.toArray⟩) false).run P w = .ok ((look k l 0).map (·.2) |>.getD z) w := by
 obtain ⟨es, c, h1, h2⟩ := h
 have hc : ∀ e, (Instr.checkKey e 10000 kt (.string ⟨k.toArray⟩)).run P w = .ok () w := fun e => MapKept.run_checkKey (k := .string ⟨k.toArray⟩) hk (by simp [MapKept.IsKey]) e 9999
 have hf := find_s k es.toList l 0 h2
 cases hl : look k l 0 with
 | none =>
  rw [hl] at hf
  simp [Instr.lookup, run_underlying ht, MapKept.run_getObj_map h1, hc, MapKept.run_findKey hk hf, hz, Result.andThen]
 | some r =>
  obtain ⟨j, v⟩ := r
  rw [hl] at hf
  simp [Instr.lookup, run_underlying ht, MapKept.run_getObj_map h1, hc, MapKept.run_findKey hk hf, Result.andThen]
theorem run_lookup_ok {w : World} {b : Nat} {l : List (Nm × Value)} (h : MapS w b l) (ht : P.underlying t = some (.map kt et)) (hk : P.underlying kt = some .string) (z : Value) (hz : (zeroValue et).run P w = .ok z w) (k : Nm) :
  (Instr.lookup t (.map (some b)) (.string ⟨k.toArray⟩) true).run P w = .ok (.tuple #[(look k l 0).map (·.2) |>.getD z, .bool (look k l 0).isSome]) w := by
 obtain ⟨es, c, h1, h2⟩ := h
 have hc : ∀ e, (Instr.checkKey e 10000 kt (.string ⟨k.toArray⟩)).run P w = .ok () w := fun e => MapKept.run_checkKey (k := .string ⟨k.toArray⟩) hk (by simp [MapKept.IsKey]) e 9999
 have hf := find_s k es.toList l 0 h2
 cases hl : look k l 0 with
 | none =>
  rw [hl] at hf
  simp [Instr.lookup, run_underlying ht, MapKept.run_getObj_map h1, hc, MapKept.run_findKey hk hf, hz, Result.andThen]
 | some r =>
  obtain ⟨j, v⟩ := r
  rw [hl] at hf
  simp [Instr.lookup, run_underlying ht, MapKept.run_getObj_map h1, hc, MapKept.run_findKey hk hf, Result.andThen]
/-- What a store leaves. -/
def upd (k : Nm) (v : Value) (l : List (Nm × Value)) : List (Nm × Value) := match look k l 0 with
 | some (j, _) => l.set j (k, v)
 | none => l ++ [(k, v)]
theorem look_at {k : Nm} : ∀ {l : List (Nm × Value)} {i j : Nat} {v : Value}, look k l i = some (j, v) → i ≤ j ∧ l[j - i]? = some (k, v)
 | [], i, j, v, h => by simp [look] at h
 | x :: l, i, j, v, h => by
  rw [look] at h
  split at h
  ·rename_i hk
   simp only [Option.some.injEq, Prod.mk.injEq] at h
   obtain ⟨rfl, rfl⟩ := h
   refine ⟨Nat.le_refl _, ?_⟩
   simp [hk]
  ·obtain ⟨h1, h2⟩ := look_at h
   refine ⟨by omega, ?_⟩
   rw [show j - i = (j - (i + 1)) + 1 by omega]
   simpa using h2
theorem turned_setObj (w : World) (b : Nat) (o : Obj) : Turned [b] w { w with heap := w.heap.setIfInBounds b o } := by
 refine ⟨rfl, rfl, rfl, by simp, fun k hk hn => ?_⟩
 show (w.heap.setIfInBounds b o)[k]? = _
 rw [Array.getElem?_setIfInBounds]
 rw [if_neg (by simp at hn; exact fun e => hn e.symm)]
theorem run_update {w : World} {b : Nat} {l : List (Nm × Value)} (h : MapS w b l) (ht : P.underlying t = some (.map kt et)) (hk : P.underlying kt = some .string) (k : Nm) (v : Value) :
  ∃ w', (Instr.mapUpdate t (.map (some b)) (.string ⟨k.toArray⟩) v).run P w = .ok () w' ∧ MapS w' b (upd k v l) ∧ Turned [b] w w' := by
 obtain ⟨es, c, h1, h2⟩ := h
 have hb : b < w.heap.size := (Array.getElem?_eq_some_iff.1 h1).1
 have hc : ∀ e, (Instr.checkKey e 10000 kt (.string ⟨k.toArray⟩)).run P w = .ok () w := fun e => MapKept.run_checkKey (k := .string ⟨k.toArray⟩) hk (by simp [MapKept.IsKey]) e 9999
 have hf := find_s k es.toList l 0 h2
 cases hl : look k l 0 with
 | none =>
  rw [hl] at hf
  refine ⟨_, by simp [Instr.mapUpdate, run_underlying ht, MapKept.run_getObj_map h1, hc, MapKept.run_findKey hk hf, MapKept.run_setObj_map _ h1, Result.andThen]; rfl, ?_, turned_setObj _ _ _⟩
  refine ⟨_, _, by show (w.heap.setIfInBounds b _)[b]? = _; rw [Array.getElem?_setIfInBounds, if_pos rfl, if_pos hb], ?_⟩
  unfold upd
  rw [hl]
  simp [h2]
 | some r =>
  obtain ⟨j, u⟩ := r
  rw [hl] at hf
  obtain ⟨-, hj⟩ := look_at hl
  rw [Nat.sub_zero] at hj
  have hj2 : es.toList.length = l.length := by simpa using congrArg List.length h2
  have hjl : j < l.length := (List.getElem?_eq_some_iff.1 hj).1
  have hje : j < es.size := by simpa [← hj2] using hjl
  have hkey : (es[j]?.map (·.key)).getD (.string ⟨k.toArray⟩) = .string ⟨k.toArray⟩ := by
   have e1 : (es.toList.map (fun e => (e.key, e.val)))[j]? = (l.map (fun x => (Value.string ⟨x.1.toArray⟩, x.2)))[j]? := by rw [h2]
   rw [List.getElem?_map, List.getElem?_map, hj, Array.getElem?_toList] at e1
   cases he : es[j]? with
   | none => rfl
   | some e => rw [he] at e1; simp at e1; simp [e1]
  have hks : (Instr.keyThatStays (.string ⟨k.toArray⟩) (.string ⟨k.toArray⟩)).run P w = .ok (.string ⟨k.toArray⟩) w := by
   have : ((⟨k.toArray⟩ : ByteArray) == ⟨k.toArray⟩) = true := (MapKept.bytes_beq _ _).2 rfl
   simp [Instr.keyThatStays, Instr.sameBits, this]
  refine ⟨_, by simp [Instr.mapUpdate, run_underlying ht, MapKept.run_getObj_map h1, hc, MapKept.run_findKey hk hf, hkey, hks, MapKept.run_setObj_map _ h1, Result.andThen]; rfl, ?_, turned_setObj _ _ _⟩
  refine ⟨_, _, by show (w.heap.setIfInBounds b _)[b]? = _; rw [Array.getElem?_setIfInBounds, if_pos rfl, if_pos hb], ?_⟩
  unfold upd
  rw [hl]
  apply List.ext_getElem?
  intro n
  have e1 : (es.toList.map (fun e => (e.key, e.val)))[n]? = (l.map (fun x => (Value.string ⟨x.1.toArray⟩, x.2)))[n]? := by rw [h2]
  rw [List.getElem?_map, List.getElem?_map, Array.getElem?_toList] at e1
  rw [List.getElem?_map, List.getElem?_map, Array.getElem?_toList, Array.getElem?_modify]
  by_cases hn : j = n
  ·subst hn
   rw [if_pos rfl, List.getElem?_set_self hjl]
   simp [hje]
  ·rw [if_neg hn, List.getElem?_set_ne hn]
   exact e1
end
/-- A set: its names with true. -/
abbrev setL (s : List Nm) : List (Nm × Value) := s.map fun x => (x, .bool true)
theorem look_set (k : Nm) : ∀ (s : List Nm) (i : Nat), ((look k (setL s) i).map (·.2)).getD (.bool false) = .bool (s.contains k)
 | [], i => rfl
 | x :: s, i => by
  have ih := look_set k s (i + 1)
  simp only [setL, List.map_cons, look]
  by_cases hk : k = x
  ·subst hk; simp
  ·rw [if_neg hk, ih]
   simp [hk]
theorem look_set_some (k : Nm) : ∀ (s : List Nm) (i : Nat), (look k (setL s) i).isSome = s.contains k
 | [], i => rfl
 | x :: s, i => by
  have ih := look_set_some k s (i + 1)
  simp only [setL, List.map_cons, look]
  by_cases hk : k = x
  ·subst hk; simp
  ·rw [if_neg hk, ih]
   simp [hk]
theorem upd_set (k : Nm) (s : List Nm) : upd k (.bool true) (setL s) = setL (if s.contains k then s else s ++ [k]) := by
 have h := look_set_some k s 0
 unfold upd
 cases hl : look k (setL s) 0 with
 | none =>
  rw [hl] at h
  simp at h
  rw [if_neg (by simp [h])]
  simp
 | some r =>
  obtain ⟨j, v⟩ := r
  rw [hl] at h
  rw [if_pos (by simp only [Option.isSome_some] at h; exact h.symm)]
  obtain ⟨-, hj⟩ := look_at hl
  rw [Nat.sub_zero] at hj
  have hv : v = .bool true := by
   simp only [setL, List.getElem?_map, Option.map_eq_some_iff, Prod.mk.injEq] at hj
   obtain ⟨_, _, _, e⟩ := hj
   exact e.symm
  subst hv
  apply List.ext_getElem?
  intro n
  by_cases hn : j = n
  ·subst hn
   rw [List.getElem?_set_self (List.getElem?_eq_some_iff.1 hj).1, hj]
  ·rw [List.getElem?_set_ne hn]
end Go.Proofs.YtkcgldpedfafpaaGreat.maps

namespace Go.Proofs.YtkcgldpedfafpaaGreat.chk
open Go.RowKit
open heap maps
open par (Nd KV Tr ndV ndC)
open lex (run_store_float)
open many (fnL fnT)
set_option linter.unusedVariables false
set_option linter.unusedSimpArgs false
set_option maxRecDepth 100000

abbrev wrongV (a c : Int) : Value := .iface 63 (.agg #[.int .i64 a, .int .i64 c])
theorem fail_no (a c : Int) (w : World) : Calls Tryz.prog 35 #[.bool false, .int .i64 a, .int .i64 c] w fun e w' => e = .returned (.tuple #[]) ∧ w = w' := by
 go_enter Tryz.func35, Tryz.ntmps35
 go_wp2_with fail
 go_end0
 exact ⟨rfl, rfl⟩
theorem fail_yes (a c : Int) (w : World) : Calls Tryz.prog 35 #[.bool true, .int .i64 a, .int .i64 c] w fun e w' => e = .panicked [{ v := wrongV a c, recovered := false }] ∧ w = w' := by
 go_enter Tryz.func35, Tryz.ntmps35
 go_wp2_with fail
 exact ⟨rfl, rfl, rfl⟩
theorem wpList_insert {P : Program} {w : World} {ops : Array Oper} {rest : List Oper} {o : Oper} {a : Act} {Q : Exit → Act → World → Prop} {t kt et : TypeId} {m x y : Operand} {b : Nat} {l : List (Nm × Value)} {k : Nm} {v : Value} (hgd : o.guard = none)
  (ho : o.op = .insert t m x y) (ht : P.underlying t = some (.map kt et)) (hk : P.underlying kt = some .string) (hm : a.eval m = .map (some b)) (hx : a.eval x = .string ⟨k.toArray⟩) (hy : a.eval y = v) (h : MapS w b l)
  (hn : ∀ w', MapS w' b (upd k v l) → Turned [b] w w' → wpList P ops Q rest (a.put o.dst undef) w') : wpList P ops Q (o :: rest) a w := by
 refine wpList_plain hgd fun K hK => ?_
 obtain ⟨w', h1, h2, h3⟩ := run_update h ht hk k v
 unfold Oper.wp
 simp [execOp, ho, hm, hx, hy, h1, Result.andThen]
 exact hK _ _ (hn w' h2 h3)
theorem wpList_insert_new {P : Program} {w : World} {ops : Array Oper} {rest : List Oper} {o : Oper} {a : Act} {Q : Exit → Act → World → Prop} {t kt et : TypeId} {m x y : Operand} {b : Nat} {l : List (Nm × Value)} {k : Nm} {v : Value} (hgd : o.guard = none)
  (ho : o.op = .insert t m x y) (ht : P.underlying t = some (.map kt et)) (hk : P.underlying kt = some .string) (hm : a.eval m = .map (some b)) (hx : a.eval x = .string ⟨k.toArray⟩) (hy : a.eval y = v) (h : MapS w b l) (hf : (maps.look k l 0).isNone = true)
  (hn : ∀ w', MapS w' b (l ++ [(k, v)]) → Turned [b] w w' → wpList P ops Q rest (a.put o.dst undef) w') : wpList P ops Q (o :: rest) a w := by
 refine wpList_insert hgd ho ht hk hm hx hy h (fun w' h1 h2 => hn w' ?_ h2)
 unfold upd at h1
 cases hl : maps.look k l 0 with
 | none => rw [hl] at h1; exact h1
 | some r => rw [hl] at hf; exact absurd hf Bool.false_ne_true
theorem MapS.cast {w : World} {b : Nat} {l l' : List (Nm × Value)} (h : MapS w b l) (e : l = l') : MapS w b l' := e ▸ h
def fnV : List (Nm × Value) := fnL.map fun x => (x.1, .int .i64 x.2)
set_option maxHeartbeats 400000 in
theorem functions_any (w : World) : Calls Tryz.prog 41 #[] w fun e w' => ∃ b, e = .returned (.map (some b)) ∧ MapS w' b fnV ∧ w.heap.size ≤ b ∧ Below w.heap.size w w' := by
 go_enter Tryz.func41, Tryz.ntmps41
 have HM := Lib.hid (MapS.new w)
 have HB : Hid (Below w.heap.size w (w.alloc (.map #[] 0))) := (Below.refl _ _).alloc (Nat.le_refl _) _
 have hmm := @run_makeMap_plain Tryz.prog
 go_wp2_with (refine wpList_insert_new rfl rfl Tryz.underlying72 Tryz.underlying9 rfl rfl rfl HM.out (by kernel_rfl) ?_; intro w' hm' ht'; clear HM; have HM := Lib.hid hm'; have hb' := HB.out.trans (ht'.below HB.out.size (by simp)); clear HB; have HB := Lib.hid hb'; clear hm' ht' hb')
 go_ret
 exact ⟨_, rfl, MapS.cast HM.out (by kernel_rfl), Nat.le_refl _, HB.out⟩
end Go.Proofs.YtkcgldpedfafpaaGreat.chk

namespace Go.Proofs.YtkcgldpedfafpaaGreat.chk
open Go.RowKit
open heap maps
open par (Nd KV Tr ndV ndC)
open lex (run_store_float)
open many (fnL fnT)
set_option linter.unusedVariables false
set_option linter.unusedSimpArgs false
set_option maxRecDepth 100000
attribute [local go_sem] run_store_float

theorem cell_no_map {w : World} {a : Addr} {v : Value} {b : Nat} {es : Array MapEntry} {c : Nat} (h : w.cell? a = some v) (hb : w.heap[b]? = some (.map es c)) : a.block ≠ b := by
 intro e
 subst e
 simp [World.cell?, hb] at h
theorem map_cell {w : World} {a : Addr} {v : Value} {b : Nat} {l : List (Nm × Value)} (h : w.cell? a = some v) (hb : MapS w b l) : a.block ≠ b := by
 obtain ⟨es, c, h1, _⟩ := hb
 exact cell_no_map h h1
theorem map_blk {w : World} {b k : Nat} {cs : Array Value} {t : TypeId} {fr : Nat × Nat} {l : List (Nm × Value)} (h : w.heap[k]? = some (.cells cs t fr)) (hb : MapS w b l) : k ≠ b := by
 obtain ⟨es, c, h1, _⟩ := hb
 intro e
 subst e
 rw [h] at h1
 cases h1
theorem KV.isCells {T : TypeId} {w : World} : ∀ (d : Nat) {xs : List Nd} {v : Value} {S : List Nat}, KV T w d xs v S → ∀ b ∈ S, ∃ cs t, w.heap[b]? = some (.cells cs t (0, 0))
 | 0, _, _, _, h, _, _ => h.elim
 | d + 1, xs, v, S, h, b, hb => by
  obtain ⟨cs, Ss, h1, h2, h3, rfl, h5, h6⟩ := h
  rcases List.mem_append.1 hb with hb | hb
  ·obtain ⟨_, ⟨hv, _⟩ | ⟨g, c, cur, rfl, _, h4, _⟩⟩ := h3
   ·rw [hv] at hb; simp [Value.ownBlock] at hb
   ·have : b = g := by simpa [Value.ownBlock] using hb
    subst this
    exact ⟨_, _, h4⟩
  ·obtain ⟨s, hs, hbs⟩ := List.mem_flatten.1 hb
   obtain ⟨i, hi, rfl⟩ := List.getElem_of_mem hs
   exact KV.isCells d (h6 i _ _ _ (List.getElem?_eq_getElem (by omega)) (List.getElem?_eq_getElem (by omega)) (List.getElem?_eq_getElem hi)) b hbs
/-- A node behind a pointer, with its kids. -/
structure NdP (w : World) (g o d : Nat) (x : Nd) (c : Value) (S : List Nat) : Prop where
 c0 : w.cell? ⟨g, o, none⟩ = some (.int .i64 x.kind)
 c1 : w.cell? ⟨g, o + 1, none⟩ = some (.string ⟨x.text.toArray⟩)
 c2 : w.cell? ⟨g, o + 2, none⟩ = some (.float .f64 x.num)
 c3 : w.cell? ⟨g, o + 3, none⟩ = some c
 c4 : w.cell? ⟨g, o + 4, none⟩ = some (.int .i64 x.at')
 kv : KV 25 w d x.kids c S
/-- A checker, its maps. -/
structure ChkP (w : World) (q ms mf : Nat) (set : List Nm) : Prop where
 blk : w.heap[q]? = some (.cells #[.map (some ms), .map (some mf)] 75 (0, 0))
 st : MapS w ms (setL set)
 fns : MapS w mf fnV
 ne : ms ≠ mf
theorem NdP.turned {w w' : World} {g o d ms : Nat} {x : Nd} {c : Value} {S : List Nat} {l : List (Nm × Value)} (h : NdP w g o d x c S) (ht : Turned [ms] w w') (hm : MapS w ms l) : NdP w' g o d x c S := by
 have e : ∀ {a : Addr} {v : Value}, w.cell? a = some v → w'.cell? a = some v := fun h1 => ht.cell h1 (by simp; exact map_cell h1 hm)
 refine ⟨e h.c0, e h.c1, e h.c2, e h.c3, e h.c4, h.kv.turned ht (fun b hb hn => ?_)⟩
 obtain ⟨cs, t, h1⟩ := KV.isCells _ h.kv b hb
 have := map_blk h1 hm
 simp at hn
 exact this hn
theorem ChkP.turned {w w' : World} {q ms mf : Nat} {set set' : List Nm} (h : ChkP w q ms mf set) (ht : Turned [ms] w w') (hs : MapS w' ms (setL set')) : ChkP w' q ms mf set' :=
 ⟨ht.kept h.blk (by simp; exact map_blk h.blk h.st), hs, h.fns.turned ht (by simp; exact fun e => h.ne e.symm), h.ne⟩
theorem NdP.below {w w' : World} {g o d : Nat} {x : Nd} {c : Value} {S : List Nat} (h : NdP w g o d x c S) (hb : Below w.heap.size w w') : NdP w' g o d x c S := by
 have e : ∀ {a : Addr} {v : Value}, w.cell? a = some v → w'.cell? a = some v := fun h1 => (Turned.of_below (S := []) hb).cell h1 (by simp)
 exact ⟨e h.c0, e h.c1, e h.c2, e h.c3, e h.c4, h.kv.below hb⟩
theorem ChkP.below {w w' : World} {q ms mf : Nat} {set : List Nm} (h : ChkP w q ms mf set) (hb : Below w.heap.size w w') : ChkP w' q ms mf set :=
 ⟨blk_below h.blk hb, h.st.turned (Turned.of_below (S := []) hb) (by simp), h.fns.turned (Turned.of_below (S := []) hb) (by simp), h.ne⟩
theorem wpList_update {P : Program} {w : World} {ops : Array Oper} {rest : List Oper} {o : Oper} {a : Act} {Q : Exit → Act → World → Prop} {t kt et : TypeId} {m x y : Operand} {b : Nat} {l : List (Nm × Value)} {k : Nm} {v : Value} (hgd : o.guard = none)
  (ho : o.op = .mapUpdate t m x y) (ht : P.underlying t = some (.map kt et)) (hk : P.underlying kt = some .string) (hm : a.eval m = .map (some b)) (hx : a.eval x = .string ⟨k.toArray⟩) (hy : a.eval y = v) (h : MapS w b l)
  (hn : ∀ w', MapS w' b (upd k v l) → Turned [b] w w' → wpList P ops Q rest (a.put o.dst undef) w') : wpList P ops Q (o :: rest) a w := by
 refine wpList_plain hgd fun K hK => ?_
 obtain ⟨w', h1, h2, h3⟩ := run_update h ht hk k v
 unfold Oper.wp
 simp [execOp, ho, hm, hx, hy, h1, Result.andThen]
 exact hK _ _ (hn w' h2 h3)
def addN (s : List Nm) (k : Nm) : List Nm := if s.contains k then s else s ++ [k]
set_option maxHeartbeats 1000000 in
theorem node1_any (bc bn q ms g o : Nat) (set : List Nm) (name : Nm) (u : FrameMode) (w : World) (h1 : w.cell? ⟨bc, 0, none⟩ = some (.pointer (some ⟨q, 0, none⟩))) (h2 : w.cell? ⟨q, 0, none⟩ = some (.map (some ms))) (h3 : w.cell? ⟨bn, 0, none⟩ = some (.pointer (some ⟨g, o, none⟩))) (h4 : w.cell? ⟨g, o + 1, none⟩ = some (.string ⟨name.toArray⟩)) (hm : MapS w ms (setL set)) :
  CallsD Tryz.prog 53 #[.pointer (some ⟨bc, 0, none⟩), .pointer (some ⟨bn, 0, none⟩)] u w fun e u' w' => u' = u ∧ e = .returned (.tuple #[]) ∧ MapS w' ms (setL (addN set name)) ∧ Turned [ms] w w' := by
 have HM : Hid (MapS w.drew ms (setL set)) := hm
 clear hm
 go_enter_d Tryz.func53, Tryz.ntmps53
 go_wp2_with fail
 go_still_tail 8, (by kernel_rfl)
 change wpList _ _ _ _ _ w.drew
 refine wpList_update (v := .bool true) rfl rfl Tryz.underlying66 Tryz.underlying9 rfl rfl rfl HM.out ?_
 intro w' hm' ht'
 rw [upd_set] at hm'
 have HM2 := Lib.hid hm'
 have HT2 : Hid (Turned [ms] w w') := ((Turned.refl [ms] w).drew).trans ht'
 clear hm' ht' h1 h2 h3 h4 HM
 go_wp2_with fail
 go_end0
 exact ⟨rfl, HM2.out, HT2.out⟩
end Go.Proofs.YtkcgldpedfafpaaGreat.chk

namespace Go.Proofs.YtkcgldpedfafpaaGreat.chk
open Go.RowKit
open heap maps
open par (Nd KV Tr ndV ndC)
open lex (run_store_float)
open many (fnL fnT)
set_option linter.unusedVariables false
set_option linter.unusedSimpArgs false
set_option maxRecDepth 100000
attribute [local go_sem] run_store_float

theorem assert_wrong (a c : Int) (w : World) : (Instr.typeAssert (wrongV a c) 20 63 true).run Tryz.prog w = .ok (.tuple #[.agg #[.int .i64 a, .int .i64 c], .bool true]) w := by kernel_rfl
theorem neq_wrong (a c : Int) (w : World) : (binOp .neq 20 (wrongV a c) .nilIface).run Tryz.prog w = .ok (.bool true) w := by kernel_rfl
set_option maxHeartbeats 1000000 in
theorem look1_panic (b4 b5 : Nat) (x4 x5 : Int) (a c : Int) (w : World) (h4 : w.heap[b4]? = some (.cells #[.int .i64 x4] 3 (0, 0))) (h5 : w.heap[b5]? = some (.cells #[.int .i64 x5] 30 (0, 0))) (hne : b4 ≠ b5) :
  CallsD Tryz.prog 34 #[.pointer (some ⟨b4, 0, none⟩), .pointer (some ⟨b5, 0, none⟩)] (.panicking [{ v := wrongV a c, recovered := false }]) w fun e u' w' => e = .returned (.tuple #[]) ∧ u' = .panicking [{ v := wrongV a c, recovered := true }] ∧
   w'.heap[b4]? = some (.cells #[.int .i64 a] 3 (0, 0)) ∧ w'.heap[b5]? = some (.cells #[.int .i64 c] 30 (0, 0)) ∧ Turned [b4, b5] w w' := by
 have c4 := blk_cell h4 0
 have c5 := blk_cell h5 0
 have f4 := blk_free h4 0
 have f5 := blk_free h5 0
 have l4 := blk_lt h4
 have l5 := blk_lt h5
 have hta := assert_wrong a c
 refine callsD_of_wpS Tryz.func34 rfl fun c₀ cs hu => ?_
 apply wpS_seq
 apply wpS_region
 simp [wpOpsS, go_sem, recoverD, hu, Tryz.ntmps34, Exit.thenS]
 refine wpS_of_wp ?_
 simp only [Array.replicate_succ, Array.replicate_zero, List.push_toArray, List.nil_append, List.cons_append, List.append_toArray, List.setIfInBounds_toArray, List.set_cons_succ, List.set_cons_zero]
 have hnq := neq_wrong a c
 clear hu
 go_wp2_with fail
 go_region
 all_goals
  go_wp2_with fail
  have q4 : (((w.setCell ⟨b4, 0, none⟩ (.int .i64 a)).setCell ⟨b5, 0, none⟩ (.int .i64 c)).alloc (.cells #[.int .i64 a, .int .i64 c] 63 (0, 0))).drew.heap[b4]? = some (.cells #[.int .i64 a] 3 (0, 0)) :=
   blk_old ((blk_other hne 0 _).trans (blk_set h4 0 _)) _
  have q5 : (((w.setCell ⟨b4, 0, none⟩ (.int .i64 a)).setCell ⟨b5, 0, none⟩ (.int .i64 c)).alloc (.cells #[.int .i64 a, .int .i64 c] 63 (0, 0))).drew.heap[b5]? = some (.cells #[.int .i64 c] 30 (0, 0)) :=
   blk_old (blk_set ((blk_other (Ne.symm hne) 0 _).trans h5) 0 _) _
  have qt : Turned [b4, b5] w (((w.setCell ⟨b4, 0, none⟩ (.int .i64 a)).setCell ⟨b5, 0, none⟩ (.int .i64 c)).alloc (.cells #[.int .i64 a, .int .i64 c] 63 (0, 0))).drew :=
   ((((Turned.refl _ _).setCell (by simp) _).setCell (by simp) _).alloc _).drew
  generalize (((w.setCell ⟨b4, 0, none⟩ (.int .i64 a)).setCell ⟨b5, 0, none⟩ (.int .i64 c)).alloc (.cells #[.int .i64 a, .int .i64 c] 63 (0, 0))).drew = wf at *
  simp [bodyPostS, results, Tryz.results34, q4, q5, qt]
theorem look1_idle (b4 b5 : Nat) (w : World) :
  CallsD Tryz.prog 34 #[.pointer (some ⟨b4, 0, none⟩), .pointer (some ⟨b5, 0, none⟩)] .returning w fun e u' w' => e = .returned (.tuple #[]) ∧ u' = .returning ∧ w' = w := by
 refine callsD_of_wpS Tryz.func34 rfl fun c₀ cs hu => ?_
 apply wpS_seq
 apply wpS_region
 simp [wpOpsS, go_sem, recoverD, hu, Tryz.ntmps34, Exit.thenS]
 refine wpS_of_wp ?_
 simp only [Array.replicate_succ, Array.replicate_zero, List.push_toArray, List.nil_append, List.cons_append, List.append_toArray, List.setIfInBounds_toArray, List.set_cons_succ, List.set_cons_zero]
 have hnq : ∀ w, (binOp .neq 20 .nilIface .nilIface).run Tryz.prog w = .ok (.bool false) w := fun w => by kernel_rfl
 go_wp2_with fail
 cases c₀
 simp_all [bodyPostS, results, Tryz.results34]
end Go.Proofs.YtkcgldpedfafpaaGreat.chk

namespace Go.Proofs.YtkcgldpedfafpaaGreat.chk
open Go.RowKit
open heap maps
open par (Nd KV Tr ndV ndC)
open lex (run_store_float)
open many (fnL fnT)
set_option linter.unusedVariables false
set_option linter.unusedSimpArgs false
set_option maxRecDepth 100000
attribute [local go_sem] run_store_float

abbrev PA (g o : Nat) : Value := .pointer (some ⟨g, o, none⟩)
/-- What node leaves. -/
def NodeP (r : Except (Int × Int) (List Nm)) (q ms mf : Nat) (w : World) (e : Ending) (w' : World) : Prop := match r with
 | .ok s => e = .returned (.tuple #[]) ∧ ChkP w' q ms mf s ∧ Turned [ms] w w'
 | .error p => e = .panicked [{ v := wrongV p.1 p.2, recovered := false }] ∧ (∃ s, ChkP w' q ms mf s) ∧ Turned [ms] w w'
def NodeAt (d : Nat) : Prop := ∀ (x : Nd) (set : List Nm) (g o : Nat) (c : Value) (S : List Nat) (q ms mf : Nat) (w : World), NdP w g o d x c S → ChkP w q ms mf set → Calls Tryz.prog 42 #[PA q 0, PA g o] w (NodeP (nodeP fnT x set) q ms mf w)
theorem kids_take (fn : Nm → Option Int) : ∀ (ks : List Nd) (j : Nat) (y : Nd) (set s : List Nm), ks[j]? = some y → kidsP fn (ks.take j) set = .ok s → kidsP fn (ks.take (j + 1)) set = nodeP fn y s ∧ (∀ r, nodeP fn y s = .error r → kidsP fn ks set = .error r)
 | [], j, y, set, s, h, _ => by simp at h
 | x :: ks, 0, y, set, s, h, h2 => by
  simp at h
  subst h
  simp only [List.take_zero, kidsP] at h2
  cases h2
  refine ⟨?_, fun r hr => ?_⟩
  ·simp only [Nat.zero_add, List.take_succ_cons, List.take_zero, kidsP]
   cases nodeP fn x set <;> rfl
  ·simp only [kidsP, hr]
 | x :: ks, j + 1, y, set, s, h, h2 => by
  simp only [List.take_succ_cons, kidsP] at h2 ⊢
  cases hx : nodeP fn x set with
  | error r => rw [hx] at h2; cases h2
  | ok s1 =>
   rw [hx] at h2
   simp only at h2 ⊢
   exact kids_take fn ks j y s1 s (by simpa using h) h2
theorem kids_all (fn : Nm → Option Int) (x : Nd) (set : List Nm) (hf : faultOf fn x.kind x.text x.kids.length set = 0) : nodeP fn x set = match kidsP fn x.kids set with
  | .ok s => .ok (after x.kind x.text s)
  | .error e => .error e := by
 cases x with
 | mk k t n ks a =>
  have hf : faultOf fn k t ks.length set = 0 := hf
  rw [nodeP, if_pos hf]; rfl
theorem node_fault (fn : Nm → Option Int) (x : Nd) (set : List Nm) (hf : faultOf fn x.kind x.text x.kids.length set ≠ 0) : nodeP fn x set = .error (x.at', faultOf fn x.kind x.text x.kids.length set) := by
 cases x with
 | mk k t n ks a =>
  have hf : faultOf fn k t ks.length set ≠ 0 := hf
  rw [nodeP, if_neg hf]; rfl
theorem NdP.kid {w : World} {g o d : Nat} {x y : Nd} {a : Option Addr} {n : Nat} {S : List Nat} (h : NdP w g o (d + 1) x (.slice a x.kids.length n) S) {j : Nat} (hy : x.kids[j]? = some y) :
  ∃ g' c' S', a = some ⟨g', 0, none⟩ ∧ NdP w g' (j * 5) d y c' S' ∧ x.kids.length ≤ n ∧ n ≤ maxLen := by
 obtain ⟨g', c', S', h1, h2, h3, h4, h5, k0, k1, k2, k3, k4, kv, _⟩ := h.kv.kid hy
 exact ⟨g', c', S', h1, ⟨k0, k1, k2, k3, k4, kv⟩, h4, h5⟩
theorem look_fn (t : Nm) : ∀ (l : List (Nm × Int)) (i : Nat), ((maps.look t (l.map fun x => (x.1, Value.int .i64 x.2)) i).map (·.2)) = ((l.find? fun x => x.1 == t).map (·.2)).map (Value.int .i64 ·)
 | [], i => rfl
 | x :: l, i => by
  have ih := look_fn t l (i + 1)
  simp only [List.map_cons, maps.look, List.find?_cons]
  by_cases hk : t = x.1
  ·simp [hk]
  ·rw [if_neg hk, ih]
   have : (x.1 == t) = false := by rw [beq_eq_false_iff_ne]; exact fun e => hk e.symm
   rw [this]
theorem look_fn_some (t : Nm) : (maps.look t fnV 0).isSome = (fnT t).isSome := by
 have := look_fn t fnL 0
 have h2 := congrArg Option.isSome this
 simpa [fnT, fnV] using h2
set_option maxHeartbeats 1000000 in
theorem node_other {d : Nat} (IH : NodeAt d) (x : Nd) (set : List Nm) (g o : Nat) (c : Value) (S : List Nat) (q ms mf : Nat) (w : World) (hn : NdP w g o (d + 1) x c S) (hc : ChkP w q ms mf set) (k1 : x.kind ≠ 9) (k2 : x.kind ≠ 14) (k3 : x.kind ≠ 19) :
  Calls Tryz.prog 42 #[PA q 0, PA g o] w (NodeP (nodeP fnT x set) q ms mf w) := by
 have HN := Lib.hid hn
 have HC := Lib.hid hc
 have hfz : faultOf fnT x.kind x.text x.kids.length set = 0 := by unfold faultOf; rw [if_neg k1, if_neg k2, if_neg k3]
 have HAF : Hid (∀ s, after x.kind x.text s = s) := fun s => by unfold after; rw [if_neg (fun h => k1 h.1)]
 have e1 : (x.kind == 9) = false := beq_eq_false_iff_ne.2 k1
 have e2 : (x.kind == 14) = false := beq_eq_false_iff_ne.2 k2
 have e3 : (x.kind == 19) = false := beq_eq_false_iff_ne.2 k3
 obtain ⟨c0, c1, -, c3, c4, kv⟩ := hn
 obtain ⟨a1, n1, rfl⟩ := kv.slice
 have gl := World.block_lt_of_cell? w _ c0
 clear hc k1 k2 k3 kv
 go_enter_defers Tryz.func42, Tryz.ntmps42
 go_wp2_with fail
 have HFZ := Lib.hid hfz
 have hb1 : Below w.heap.size w ((w.alloc (.cells #[PA q 0] 71)).alloc (.cells #[PA g o] 65)) := ((Below.refl _ _).alloc (Nat.le_refl _) _).alloc (by simp) _
 have HN1 := Lib.hid (HN.out.below hb1)
 have HC1 := Lib.hid (HC.out.below hb1)
 have HB1 := Lib.hid (Turned.of_below (S := [ms]) hb1)
 have HX1 := Lib.hid (blk_old (blk_new w (.cells #[PA q 0] 71)) (.cells #[PA g o] 65))
 have HY1 : Hid (((w.alloc (.cells #[PA q 0] 71)).alloc (.cells #[PA g o] 65)).heap[w.heap.size + 1]? = some (.cells #[PA g o] 65)) := by
  have := blk_new (w.alloc (.cells #[PA q 0] 71)) (.cells #[PA g o] 65)
  unfold Hid
  simpa using this
 clear hb1 hfz c0 c1 c3 c4 gl
 generalize ((w.alloc (.cells #[PA q 0] 71)).alloc (.cells #[PA g o] 65)) = w1 at *
 generalize w.heap.size + 1 = bn at *
 obtain ⟨bc, hbc⟩ : ∃ bc, bc = w.heap.size := ⟨_, rfl⟩
 rw [← hbc] at HX1
 rw [← hbc]
 have HBC := Lib.hid hbc
 clear hbc
 go_loopw [92, 6] (fun v92 v6 wr => ∃ (j : Nat) (s' : List Nm), j ≤ x.kids.length ∧ v92 = .int .i64 j ∧ Hid (kidsP fnT (x.kids.take j) set = .ok s' ∧ ChkP wr q ms mf s' ∧ Turned [ms] w1 wr)) (fun v92 _ _ => x.kids.length - (intOf v92).toNat)
 case atStart => exact ⟨0, set, Nat.zero_le _, rfl, by simp [kidsP], HC1.out, Turned.refl _ _⟩
 case round =>
  obtain ⟨j, s', hj, rfl, HK⟩ := hrel
  have HNr := Lib.hid (HN1.out.turned HK.out.2.2 HC1.out.st)
  have hx1 := HK.out.2.2.kept HX1.out (by simp; exact map_blk HX1.out HC1.out.st)
  have hy1 := HK.out.2.2.kept HY1.out (by simp; exact map_blk HY1.out HC1.out.st)
  have x0 := blk_cell hx1 0
  have y0 := blk_cell hy1 0
  have xl := blk_lt hx1
  have yl := blk_lt hy1
  simp only [List.getElem?_toArray, List.getElem?_cons_zero] at x0 y0
  have n3 := HNr.out.c3
  have ngl := World.block_lt_of_cell? wr _ n3
  clear hx1 hy1
  by_cases hlt : j < x.kids.length
  ·obtain ⟨y, hy⟩ : ∃ y, x.kids[j]? = some y := ⟨_, List.getElem?_eq_getElem hlt⟩
   obtain ⟨g', c', S', hag, hny, hn1, hn2⟩ := HNr.out.kid hy
   subst hag
   have hjI : (j : Int) < (x.kids.length : Int) := by omega
   have hKT := kids_take fnT x.kids j y set s' hy HK.out.1
   have HKT := Lib.hid hKT
   have HIH := Lib.hid (fun W h1 h2 => IH y s' g' (j * 5) c' S' q ms mf W h1 h2)
   have HNY := Lib.hid hny
   unfold maxLen at hn2
   clear hKT hny hy
   go_wp2_with fail
   go_still_tail 7, (by kernel_rfl)
   change wpList _ _ _ _ _ wr.drew
   have HNYd : Hid (NdP wr.drew g' (j * 5) d y c' S') := HNY.out.below (Below.refl _ _).drew
   have HCd : Hid (ChkP wr.drew q ms mf s') := HK.out.2.1.below (Below.refl _ _).drew
   have HTd : Hid (Turned [ms] w1 wr.drew) := HK.out.2.2.drew
   clear HNY x0 y0 n3 xl yl ngl
   generalize wr.drew = wd at *
   cases hne : nodeP fnT y s' with
   | ok s2 =>
    go_wp2_with fail
    refine (HIH.out _ HNYd.out HCd.out).mono ?_
    intro e w2 hpost
    rw [hne] at hpost
    obtain ⟨rfl, hc2, ht2⟩ := hpost
    have HR : Hid (kidsP fnT (x.kids.take (j + 1)) set = .ok s2 ∧ ChkP w2 q ms mf s2 ∧ Turned [ms] w1 w2) := ⟨by rw [HKT.out.1, hne], hc2, HTd.out.trans ht2⟩
    clear hc2 ht2 hne HKT HIH HNYd HCd HTd HK
    go_wp2_with fail
    go_roundw
    case rel => exact ⟨j + 1, s2, by omega, by go_num, HR⟩
    case measure => simp [intOf]; omega
   | error r =>
    go_wp2_with fail
    refine (HIH.out _ HNYd.out HCd.out).mono ?_
    intro e w2 hpost
    rw [hne] at hpost
    obtain ⟨rfl, ⟨s9, hc9⟩, ht2⟩ := hpost
    have HC9 := Lib.hid hc9
    clear hc9
    have HE : Hid (nodeP fnT x set = .error r) := by unfold Hid; rw [kids_all _ _ _ HFZ.out, HKT.out.2 r hne]
    have HT2 := Lib.hid (HTd.out.trans ht2)
    clear ht2 hne HKT HIH HNYd HTd
    go_wp2_with fail
    change NodeP (nodeP fnT x set) q ms mf w (.panicked _) w2
    rw [HE.out]
    exact ⟨rfl, ⟨_, HC9.out⟩, HB1.out.trans HT2.out⟩
  ·have hd : j = x.kids.length := by omega
   have HE : Hid (nodeP fnT x set = .ok (after x.kind x.text s')) := by unfold Hid; rw [kids_all _ _ _ HFZ.out]; have := HK.out.1; rw [hd, List.take_length] at this; rw [this]
   have hjI : ¬ (j : Int) < (x.kids.length : Int) := by omega
   go_wp2_with fail
   refine ⟨.tuple #[], by simp [results, Tryz.results42], ?_⟩
   rw [HE.out, HAF.out]
   exact ⟨rfl, HK.out.2.1, HB1.out.trans HK.out.2.2⟩
set_option maxHeartbeats 1000000 in
theorem node_name {d : Nat} (IH : NodeAt d) (x : Nd) (set : List Nm) (g o : Nat) (c : Value) (S : List Nat) (q ms mf : Nat) (w : World) (hn : NdP w g o (d + 1) x c S) (hc : ChkP w q ms mf set) (k2 : x.kind = 14) :
  Calls Tryz.prog 42 #[PA q 0, PA g o] w (NodeP (nodeP fnT x set) q ms mf w) := by
 have HN := Lib.hid hn
 have HC := Lib.hid hc
 have hfz : faultOf fnT x.kind x.text x.kids.length set = if set.contains x.text then 0 else 2001 := by unfold faultOf; rw [if_neg (by rw [k2]; decide), if_pos k2]
 have HAF : Hid (∀ s, after x.kind x.text s = s) := fun s => by unfold after; rw [if_neg (fun h => by rw [k2] at h; exact absurd h.1 (by decide))]
 obtain ⟨c0, c1, -, c3, c4, kv⟩ := hn
 obtain ⟨a1, n1, rfl⟩ := kv.slice
 have gl := World.block_lt_of_cell? w _ c0
 rw [k2] at c0
 clear hc k2 kv
 go_enter_defers Tryz.func42, Tryz.ntmps42
 go_upto_region 6 with fail
 have HFZ := Lib.hid hfz
 have hb1 : Below w.heap.size w ((w.alloc (.cells #[PA q 0] 71)).alloc (.cells #[PA g o] 65)) := ((Below.refl _ _).alloc (Nat.le_refl _) _).alloc (by simp) _
 have HN1 := Lib.hid (HN.out.below hb1)
 have HC1 := Lib.hid (HC.out.below hb1)
 have HB1 := Lib.hid (Turned.of_below (S := [ms]) hb1)
 have HX1 := Lib.hid (blk_old (blk_new w (.cells #[PA q 0] 71)) (.cells #[PA g o] 65))
 have HY1 : Hid (((w.alloc (.cells #[PA q 0] 71)).alloc (.cells #[PA g o] 65)).heap[w.heap.size + 1]? = some (.cells #[PA g o] 65)) := by
  have := blk_new (w.alloc (.cells #[PA q 0] 71)) (.cells #[PA g o] 65)
  unfold Hid
  simpa using this
 clear hb1 hfz c0 c1 c3 c4 gl
 generalize ((w.alloc (.cells #[PA q 0] 71)).alloc (.cells #[PA g o] 65)) = w1 at *
 generalize w.heap.size + 1 = bn at *
 obtain ⟨bc, hbc⟩ : ∃ bc, bc = w.heap.size := ⟨_, rfl⟩
 rw [← hbc] at HX1
 rw [← hbc]
 have HBC := Lib.hid hbc
 clear hbc
 have x0 := blk_cell HX1.out 0
 have y0 := blk_cell HY1.out 0
 have xl := blk_lt HX1.out
 have yl := blk_lt HY1.out
 simp only [List.getElem?_toArray, List.getElem?_cons_zero] at x0 y0
 obtain ⟨c0, c1, -, c3, c4, -⟩ := HN1.out
 have gl := World.block_lt_of_cell? w1 _ c0
 have qc0 := blk_cell HC1.out.blk 0
 have qc1 := blk_cell HC1.out.blk 1
 have ql := blk_lt HC1.out.blk
 simp only [List.getElem?_toArray, List.getElem?_cons_zero, List.getElem?_cons_succ] at qc0 qc1
 have hlk := run_lookup (P := Tryz.prog) (w := w1.drew) (HC1.out.below (Below.refl _ _).drew).st Tryz.underlying66 Tryz.underlying9 (.bool false) (by kernel_rfl) x.text
 rw [look_set] at hlk
 generalize hb : set.contains x.text = b at *
 have HBB := Lib.hid hb
 clear hb
 go_still_tail 14, (by kernel_rfl)
 change wpList _ _ _ _ _ w1.drew
 clear hlk
 clear x0 y0 xl yl c0 c1 c3 c4 gl qc0 qc1 ql
 have HXd : Hid (w1.drew.heap[bc]? = some (.cells #[PA q 0] 71 (0, 0))) := HX1.out
 have HYd : Hid (w1.drew.heap[bn]? = some (.cells #[PA g o] 65 (0, 0))) := HY1.out
 have HNd := Lib.hid (HN1.out.below (Below.refl _ _).drew)
 have HCd := Lib.hid (HC1.out.below (Below.refl _ _).drew)
 have HTd : Hid (Turned [ms] w1 w1.drew) := (Turned.refl _ _).drew
 generalize w1.drew = wd at *
 cases b with
 | true =>
  have HFZ0 := HFZ
  clear HFZ
  have HFZ : Hid (faultOf fnT x.kind x.text x.kids.length set = 0) := HFZ0.out
  clear HFZ0
  go_wp2_with fail
  refine (fail_no _ _ _).mono ?_; rintro e w' ⟨rfl, rfl⟩
  have x0 := blk_cell HXd.out 0
  have y0 := blk_cell HYd.out 0
  have xl := blk_lt HXd.out
  have yl := blk_lt HYd.out
  simp only [List.getElem?_toArray, List.getElem?_cons_zero] at x0 y0
  obtain ⟨c0, c1, -, c3, c4, -⟩ := HNd.out
  have gl := World.block_lt_of_cell? wd _ c0
  have qc0 := blk_cell HCd.out.blk 0
  have qc1 := blk_cell HCd.out.blk 1
  have ql := blk_lt HCd.out.blk
  simp only [List.getElem?_toArray, List.getElem?_cons_zero, List.getElem?_cons_succ] at qc0 qc1
  go_wp2_with fail
  clear x0 y0 xl yl c0 c1 c3 c4 gl qc0 qc1 ql
  go_loopw [92, 6] (fun v92 v6 wr => ∃ (j : Nat) (s' : List Nm), j ≤ x.kids.length ∧ v92 = .int .i64 j ∧ Hid (kidsP fnT (x.kids.take j) set = .ok s' ∧ ChkP wr q ms mf s' ∧ Turned [ms] w1 wr)) (fun v92 _ _ => x.kids.length - (intOf v92).toNat)
  case atStart => exact ⟨0, set, Nat.zero_le _, rfl, by simp [kidsP], HCd.out, HTd.out⟩
  case round =>
   obtain ⟨j, s', hj, rfl, HK⟩ := hrel
   have HNr := Lib.hid (HN1.out.turned HK.out.2.2 HC1.out.st)
   have hx1 := HK.out.2.2.kept HX1.out (by simp; exact map_blk HX1.out HC1.out.st)
   have hy1 := HK.out.2.2.kept HY1.out (by simp; exact map_blk HY1.out HC1.out.st)
   have x0 := blk_cell hx1 0
   have y0 := blk_cell hy1 0
   have xl := blk_lt hx1
   have yl := blk_lt hy1
   simp only [List.getElem?_toArray, List.getElem?_cons_zero] at x0 y0
   have n3 := HNr.out.c3
   have ngl := World.block_lt_of_cell? wr _ n3
   clear hx1 hy1
   by_cases hlt : j < x.kids.length
   ·obtain ⟨y, hy⟩ : ∃ y, x.kids[j]? = some y := ⟨_, List.getElem?_eq_getElem hlt⟩
    obtain ⟨g', c', S', hag, hny, hn1, hn2⟩ := HNr.out.kid hy
    subst hag
    have hjI : (j : Int) < (x.kids.length : Int) := by omega
    have hKT := kids_take fnT x.kids j y set s' hy HK.out.1
    have HKT := Lib.hid hKT
    have HIH := Lib.hid (fun W h1 h2 => IH y s' g' (j * 5) c' S' q ms mf W h1 h2)
    have HNY := Lib.hid hny
    unfold maxLen at hn2
    clear hKT hny hy
    go_wp2_with fail
    go_still_tail 7, (by kernel_rfl)
    change wpList _ _ _ _ _ wr.drew
    have HNYd : Hid (NdP wr.drew g' (j * 5) d y c' S') := HNY.out.below (Below.refl _ _).drew
    have HCd : Hid (ChkP wr.drew q ms mf s') := HK.out.2.1.below (Below.refl _ _).drew
    have HTd : Hid (Turned [ms] w1 wr.drew) := HK.out.2.2.drew
    clear HNY x0 y0 n3 xl yl ngl
    generalize wr.drew = wd at *
    cases hne : nodeP fnT y s' with
    | ok s2 =>
     go_wp2_with fail
     refine (HIH.out _ HNYd.out HCd.out).mono ?_
     intro e w2 hpost
     rw [hne] at hpost
     obtain ⟨rfl, hc2, ht2⟩ := hpost
     have HR : Hid (kidsP fnT (x.kids.take (j + 1)) set = .ok s2 ∧ ChkP w2 q ms mf s2 ∧ Turned [ms] w1 w2) := ⟨by rw [HKT.out.1, hne], hc2, HTd.out.trans ht2⟩
     clear hc2 ht2 hne HKT HIH HNYd HCd HTd HK
     go_wp2_with fail
     go_roundw
     case rel => exact ⟨j + 1, s2, by omega, by go_num, HR⟩
     case measure => simp [intOf]; omega
    | error r =>
     go_wp2_with fail
     refine (HIH.out _ HNYd.out HCd.out).mono ?_
     intro e w2 hpost
     rw [hne] at hpost
     obtain ⟨rfl, ⟨s9, hc9⟩, ht2⟩ := hpost
     have HC9 := Lib.hid hc9
     clear hc9
     have HE : Hid (nodeP fnT x set = .error r) := by unfold Hid; rw [kids_all _ _ _ HFZ.out, HKT.out.2 r hne]
     have HT2 := Lib.hid (HTd.out.trans ht2)
     clear ht2 hne HKT HIH HNYd HTd
     go_wp2_with fail
     change NodeP (nodeP fnT x set) q ms mf w (.panicked _) w2
     rw [HE.out]
     exact ⟨rfl, ⟨_, HC9.out⟩, HB1.out.trans HT2.out⟩
   ·have hd : j = x.kids.length := by omega
    have HE : Hid (nodeP fnT x set = .ok (after x.kind x.text s')) := by unfold Hid; rw [kids_all _ _ _ HFZ.out]; have := HK.out.1; rw [hd, List.take_length] at this; rw [this]
    have hjI : ¬ (j : Int) < (x.kids.length : Int) := by omega
    go_wp2_with fail
    refine ⟨.tuple #[], by simp [results, Tryz.results42], ?_⟩
    rw [HE.out, HAF.out]
    exact ⟨rfl, HK.out.2.1, HB1.out.trans HK.out.2.2⟩
 | false =>
  have HE : Hid (nodeP fnT x set = .error (x.at', 2001)) := by
   have h := HFZ.out
   simp only [Bool.false_eq_true, ↓reduceIte] at h
   unfold Hid
   rw [node_fault _ _ _ (by rw [h]; decide), h]
  go_wp2_with fail
  refine (fail_yes _ _ _).mono ?_; rintro e w' ⟨rfl, rfl⟩
  go_wp2_with fail
  change NodeP (nodeP fnT x set) q ms mf w (.panicked _) wd
  rw [HE.out]
  exact ⟨rfl, ⟨_, HCd.out⟩, HB1.out.trans HTd.out⟩
end Go.Proofs.YtkcgldpedfafpaaGreat.chk
