/-
  Proved: fields of entries (plain): what is taken away, what an entry does; what a field does hangs on kinds alone. Conditions: as each theorem says. No program is in sight.
-/
import Derived.Test.YtifhnpkapgaboaaPk27
namespace Go.Proofs.Ytifhnpkapgaboaa.fld
open Go Go.RowKit
open arch (Ent e0)
set_option linter.unusedVariables false

/-- Does q lie below p? -/
def subB (p q : Nm) : Bool := (p ++ [47]).isPrefixOf q
/-- All that lies below p is taken away, if there is something. -/
def cutF (F : Fld) (p : Nm) : Fld := if 0 < kidOf F p then ⟨F.nodes.filter fun x => !subB p x.1, F.kids.filter fun x => !(subB p x.1 && (getA x.1 F.nodes).isSome)⟩ else F
/-- An entry is taken away, with all below it. -/
def goneF (F : Fld) (p : Nm) : Fld := ⟨delA p (cutF F p).nodes, updA (aboveP p) (IntKind.i64.wrap ((getA (aboveP p) (delA p (cutF F p).kids)).getD 0 - 1)) (delA p (cutF F p).kids)⟩
/-- An entry applied to a field; none: it can't be. -/
def applyF (F : Fld) (e : Ent) : Option Fld :=
  if aboveP e.path ≠ [] ∧ ((getA (aboveP e.path) F.nodes).getD e0).kind ≠ 1 then none
  else if e.kind = 4 ∧ (getA e.path F.nodes).isSome = false then none
  else if e.kind = 1 ∧ ((getA e.path F.nodes).getD e0).kind = 1 then some ⟨updA e.path { ((getA e.path F.nodes).getD e0) with mode := e.mode } F.nodes, F.kids⟩
  else if e.kind = 4 then some (if (getA e.path F.nodes).isSome = true then goneF F e.path else F)
  else some (putF (if (getA e.path F.nodes).isSome = true then goneF F e.path else F) (if e.kind = 5 then { e with kind := 1 } else e))
section
variable {α β : Type}
theorem getA_map (f : α → β) (k : Nm) : ∀ l : List (Nm × α), getA k (l.map fun x => (x.1, f x.2)) = (getA k l).map f
  | [] => rfl
  | x :: r => by
    rw [List.map_cons, getA, getA]
    by_cases h : k = x.1
    · rw [if_pos h, if_pos h]; rfl
    · rw [if_neg h, if_neg h]; exact getA_map f k r
theorem updA_map (f : α → β) (k : Nm) (v : α) : ∀ l : List (Nm × α), updA k (f v) (l.map fun x => (x.1, f x.2)) = (updA k v l).map fun x => (x.1, f x.2)
  | [] => rfl
  | x :: r => by
    rw [List.map_cons, updA, updA]
    by_cases h : k = x.1
    · rw [if_pos h, if_pos h]; rfl
    · rw [if_neg h, if_neg h, List.map_cons, updA_map f k v r]
theorem filt_map (f : α → β) (p : Nm → Bool) (l : List (Nm × α)) : (l.map fun x => (x.1, f x.2)).filter (fun x => p x.1) = (l.filter fun x => p x.1).map fun x => (x.1, f x.2) := by rw [List.filter_map]; rfl
theorem delA_map (f : α → β) (k : Nm) (l : List (Nm × α)) : delA k (l.map fun x => (x.1, f x.2)) = (delA k l).map fun x => (x.1, f x.2) := filt_map f (fun q => decide (q ≠ k)) l
end
def kd (l : List (Nm × Ent)) : List (Nm × Int) := l.map fun x => (x.1, x.2.kind)
/-- Two fields that differ in modes and data alone. -/
structure Sk (F G : Fld) : Prop where
  n : kd F.nodes = kd G.nodes
  k : F.kids = G.kids
theorem Sk.refl (F : Fld) : Sk F F := ⟨rfl, rfl⟩
theorem Sk.get {F G : Fld} (h : Sk F G) (k : Nm) : (getA k F.nodes).map Ent.kind = (getA k G.nodes).map Ent.kind := by
  rw [← getA_map, ← getA_map]; exact congrArg (getA k) h.n
theorem Sk.is {F G : Fld} (h : Sk F G) (k : Nm) : (getA k F.nodes).isSome = (getA k G.nodes).isSome := by
  have := congrArg Option.isSome (h.get k)
  simpa using this
theorem Sk.kind {F G : Fld} (h : Sk F G) (k : Nm) : ((getA k F.nodes).getD e0).kind = ((getA k G.nodes).getD e0).kind := by
  have := h.get k
  cases h1 : getA k F.nodes <;> cases h2 : getA k G.nodes <;> simp [h1, h2] at this ⊢
  exact this
theorem Sk.len {F G : Fld} (h : Sk F G) : F.nodes.length = G.nodes.length := by
  have := congrArg List.length h.n
  simpa [kd] using this
theorem Sk.cut {F G : Fld} (h : Sk F G) (p : Nm) : Sk (cutF F p) (cutF G p) := by
  unfold cutF kidOf
  rw [h.k]
  split
  · refine ⟨?_, ?_⟩
    · show kd (F.nodes.filter fun x => !subB p x.1) = kd (G.nodes.filter fun x => !subB p x.1)
      unfold kd
      rw [← filt_map Ent.kind (fun q => !subB p q), ← filt_map Ent.kind (fun q => !subB p q)]
      exact congrArg _ h.n
    · show G.kids.filter _ = G.kids.filter _
      congr 1
      funext x
      rw [h.is]
  · exact h
theorem Sk.gone {F G : Fld} (h : Sk F G) (p : Nm) : Sk (goneF F p) (goneF G p) := by
  have hc := h.cut p
  refine ⟨?_, ?_⟩
  · show kd (delA p (cutF F p).nodes) = kd (delA p (cutF G p).nodes)
    unfold kd
    rw [← delA_map Ent.kind, ← delA_map Ent.kind]
    exact congrArg _ hc.n
  · show updA _ _ (delA p (cutF F p).kids) = updA _ _ (delA p (cutF G p).kids)
    rw [hc.k]
theorem Sk.put {F G : Fld} (h : Sk F G) {e e' : Ent} (hp : e.path = e'.path) (hk : e.kind = e'.kind) : Sk (putF F e) (putF G e') := by
  refine ⟨?_, ?_⟩
  · show kd (updA e.path e F.nodes) = kd (updA e'.path e' G.nodes)
    unfold kd
    rw [← updA_map Ent.kind, ← updA_map Ent.kind, hp, hk]
    exact congrArg _ h.n
  · show updA (aboveP e.path) _ F.kids = updA (aboveP e'.path) _ G.kids
    rw [hp, h.k]
    unfold kidOf
    rw [h.k]
theorem apply_sk {F G : Fld} (h : Sk F G) {e e' : Ent} (hp : e.path = e'.path) (hk : e.kind = e'.kind) : (applyF F e = none ∧ applyF G e' = none) ∨ ∃ F' G', applyF F e = some F' ∧ applyF G e' = some G' ∧ Sk F' G' := by
  have hF : Sk (if (getA e.path F.nodes).isSome = true then goneF F e.path else F) (if (getA e'.path G.nodes).isSome = true then goneF G e'.path else G) := by
    rw [hp, h.is]
    split
    · exact h.gone _
    · exact h
  unfold applyF
  generalize (if (getA e.path F.nodes).isSome = true then goneF F e.path else F) = F1 at *
  generalize (if (getA e'.path G.nodes).isSome = true then goneF G e'.path else G) = G1 at *
  rw [h.kind, h.kind, h.is, hp, hk]
  by_cases h1 : aboveP e'.path ≠ [] ∧ ((getA (aboveP e'.path) G.nodes).getD e0).kind ≠ 1
  · rw [if_pos h1, if_pos h1]; exact .inl ⟨rfl, rfl⟩
  rw [if_neg h1, if_neg h1]
  by_cases h2 : e'.kind = 4 ∧ (getA e'.path G.nodes).isSome = false
  · rw [if_pos h2, if_pos h2]; exact .inl ⟨rfl, rfl⟩
  rw [if_neg h2, if_neg h2]
  right
  by_cases h3 : e'.kind = 1 ∧ ((getA e'.path G.nodes).getD e0).kind = 1
  · rw [if_pos h3, if_pos h3]
    refine ⟨_, _, rfl, rfl, ?_, h.k⟩
    show kd (updA e'.path _ F.nodes) = kd (updA e'.path _ G.nodes)
    unfold kd
    rw [← updA_map Ent.kind, ← updA_map Ent.kind]
    show updA e'.path ((getA e'.path F.nodes).getD e0).kind (kd F.nodes) = updA e'.path ((getA e'.path G.nodes).getD e0).kind (kd G.nodes)
    rw [h.kind, h.n]
  rw [if_neg h3, if_neg h3]
  by_cases h4 : e'.kind = 4
  · rw [if_pos h4, if_pos h4]
    exact ⟨_, _, rfl, rfl, hF⟩
  rw [if_neg h4, if_neg h4]
  refine ⟨_, _, rfl, rfl, hF.put ?_ ?_⟩
  · by_cases h5 : e'.kind = 5
    · rw [if_pos h5, if_pos h5]; first | done | exact hp
    · rw [if_neg h5, if_neg h5]; first | done | exact hp
  · by_cases h5 : e'.kind = 5
    · rw [if_pos h5, if_pos h5]
    · rw [if_neg h5, if_neg h5]; exact hk
end Go.Proofs.Ytifhnpkapgaboaa.fld
