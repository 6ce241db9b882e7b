/-
  Proved: which guarded operations of a drawn region are wanted. Conditions: as each theorem says. No program is in sight.
-/
import Derived.Test.YtjanpaallealgaaDoorReg
namespace Go.Proofs.YtjanpaallealgaaDoor.reg
open Go.RowKit

theorem yield_of {l : List Oper} {a : Act} {j t : Nat} {p : Oper} {b : Bool} (hp : l[j]? = some p) (hd : p.dst = some t) (h : a.eval (.tmp t) = .bool b) : yielded l.toArray a.tmps j = some b := by
  have h' : a.tmps.getD t undef = .bool b := h
  unfold yielded
  rw [List.getElem?_toArray, hp]
  simp only [Option.bind_some, hd]
  cases ht : a.tmps[t]? with
  | none => simp [Array.getD_eq_getD_getElem?, ht] at h'; cases h'
  | some v => simp [Array.getD_eq_getD_getElem?, ht] at h'; subst h'; rfl
theorem yield_undef {l : List Oper} {a : Act} {j t : Nat} {p : Oper} (hp : l[j]? = some p) (hd : p.dst = some t) (h : a.eval (.tmp t) = undef) : yielded l.toArray a.tmps j = none := by
  have h' : a.tmps.getD t undef = undef := h
  unfold yielded
  rw [List.getElem?_toArray, hp]
  simp only [Option.bind_some, hd]
  cases ht : a.tmps[t]? with
  | none => rfl
  | some v => simp [Array.getD_eq_getD_getElem?, ht] at h'; subst h'; rfl
theorem want_yes {l : List Oper} {a : Act} {o p : Oper} {j t : Nat} {want b : Bool} {A B : Prop} (hg : o.guard = some (j, want)) (hp : l[j]? = some p) (hd : p.dst = some t) (h : a.eval (.tmp t) = .bool b) (hb : b = want) (hA : A) : if Region.wanted o (yielded l.toArray a.tmps) = true then A else B := by
  rw [if_pos]
  · exact hA
  · simp [Region.wanted, hg, yield_of hp hd h, hb]
theorem want_no {l : List Oper} {a : Act} {o p : Oper} {j t : Nat} {want b : Bool} {A B : Prop} (hg : o.guard = some (j, want)) (hp : l[j]? = some p) (hd : p.dst = some t) (h : a.eval (.tmp t) = .bool b) (hb : b ≠ want) (hB : B) : if Region.wanted o (yielded l.toArray a.tmps) = true then A else B := by
  rw [if_neg]
  · exact hB
  · simp [Region.wanted, hg, yield_of hp hd h, hb]
theorem want_no_undef {l : List Oper} {a : Act} {o p : Oper} {j t : Nat} {want : Bool} {A B : Prop} (hg : o.guard = some (j, want)) (hp : l[j]? = some p) (hd : p.dst = some t) (h : a.eval (.tmp t) = undef) (hB : B) : if Region.wanted o (yielded l.toArray a.tmps) = true then A else B := by
  rw [if_neg]
  · exact hB
  · simp [Region.wanted, hg, yield_undef hp hd h]
end Go.Proofs.YtjanpaallealgaaDoor.reg
