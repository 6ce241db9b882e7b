/-
  Proved: the document's check of a tree and the program's come to the same (plain). Conditions: as each theorem says. No program is in sight.
  Proved: what the document's scanner, parser and checker make of the scripts that CheckArgs and CheckMany write (plain). Conditions: as each theorem says. No program is in sight.
  Proved: what the document's scanner and parser make of a recipe of so many stages and steps (plain). Conditions: as each theorem says. No program is in sight.
  Proved: nothing yet beyond definitions: the first fault of a recipe (plain). No program is in sight.
  Proved: the tree of a recipe of so many stages and steps, and its first fault (plain). Conditions: as each theorem says. No program is in sight.
  Proved: the texts in a recipe's steps are no longer than the tokens' texts (plain). Conditions: as each theorem says. No program is in sight.
  Proved: awake's two texts, CheckArgs' texts, with the fuel that the walks want (plain). No program is in sight.
-/
import Derived.Test.YtkcgldpedfafpaaGreatPr10
namespace Go.Proofs.YtkcgldpedfafpaaGreat.chk
open Go Go.RowKit
open par (Nd)
set_option linter.unusedVariables false

abbrev Nm := List UInt8
/-- What the document's checker holds: the names that are set, the first fault. -/
structure CS where
 set : List Nm
 code : Int
 bad : Int
def cflt (c : CS) (code a : Int) : CS := if c.code = 0 then { c with code := code, bad := a } else c
/-- A fault of a node by itself, ahead of its kids. -/
def faultOf (fn : Nm → Option Int) (k : Int) (t : Nm) (m : Nat) (set : List Nm) : Int :=
 if k = 9 then (if set.contains t = false ∧ 32 ≤ set.length then 2004 else 0)
 else if k = 14 then (if set.contains t then 0 else 2001)
 else if k = 19 then (match fn t with
  | none => 2001
  | some n => if n ≠ m then 2003 else 0)
 else 0
def after (k : Int) (t : Nm) (set : List Nm) : List Nm := if k = 9 ∧ set.contains t = false then set ++ [t] else set
mutual
/-- The document's checker: it goes on behind a fault. -/
def nodeR (fn : Nm → Option Int) : Nd → CS → CS
 | .mk k t n ks a, c => 
  { kidsR fn ks (if faultOf fn k t ks.length c.set = 0 then c else cflt c (faultOf fn k t ks.length c.set) a) with
   set := after k t (kidsR fn ks (if faultOf fn k t ks.length c.set = 0 then c else cflt c (faultOf fn k t ks.length c.set) a)).set }
def kidsR (fn : Nm → Option Int) : List Nd → CS → CS
 | [], c => c
 | x :: r, c => kidsR fn r (nodeR fn x c)
end
mutual
/-- The program's checker: the first fault is thrown. -/
def nodeP (fn : Nm → Option Int) : Nd → List Nm → Except (Int × Int) (List Nm)
 | .mk k t n ks a, set => if faultOf fn k t ks.length set = 0 then (match kidsP fn ks set with
   | .ok s => .ok (after k t s)
   | .error e => .error e)
  else .error (a, faultOf fn k t ks.length set)
def kidsP (fn : Nm → Option Int) : List Nd → List Nm → Except (Int × Int) (List Nm)
 | [], set => .ok set
 | x :: r, set => match nodeP fn x set with
  | .ok s => kidsP fn r s
  | .error e => .error e
end
mutual
theorem node_bad (fn : Nm → Option Int) : ∀ (x : Nd) (c : CS), c.code ≠ 0 → (nodeR fn x c).code = c.code ∧ (nodeR fn x c).bad = c.bad
 | .mk k t n ks a, c, h => by
  rw [nodeR]
  have h1 : (if faultOf fn k t ks.length c.set = 0 then c else cflt c (faultOf fn k t ks.length c.set) a) = c := by
   split
   ·rfl
   ·unfold cflt; rw [if_neg h]
  rw [h1]
  exact kids_bad fn ks c h
theorem kids_bad (fn : Nm → Option Int) : ∀ (l : List Nd) (c : CS), c.code ≠ 0 → (kidsR fn l c).code = c.code ∧ (kidsR fn l c).bad = c.bad
 | [], c, h => ⟨rfl, rfl⟩
 | x :: r, c, h => by
  rw [kidsR]
  have h1 := node_bad fn x c h
  have h2 := kids_bad fn r (nodeR fn x c) (by rw [h1.1]; exact h)
  exact ⟨h2.1.trans h1.1, h2.2.trans h1.2⟩
end
/-- Both agree: behind no fault. -/
def Agree (c : CS) (r : CS) (p : Except (Int × Int) (List Nm)) : Prop := match p with
 | .ok s => r = { c with set := s }
 | .error e => r.code = e.2 ∧ r.bad = e.1 ∧ e.2 ≠ 0
mutual
theorem node_agree (fn : Nm → Option Int) : ∀ (x : Nd) (c : CS), c.code = 0 → Agree c (nodeR fn x c) (nodeP fn x c.set)
 | .mk k t n ks a, c, h => by
  rw [nodeR, nodeP]
  by_cases hf : faultOf fn k t ks.length c.set = 0
  ·rw [if_pos hf, if_pos hf]
   have := kids_agree fn ks c h
   cases hp : kidsP fn ks c.set with
   | ok s =>
    rw [hp] at this
    have this : kidsR fn ks c = { c with set := s } := this
    rw [this]
    rfl
   | error e =>
    rw [hp] at this
    exact this
  ·rw [if_neg hf, if_neg hf]
   have hc : (cflt c (faultOf fn k t ks.length c.set) a).code ≠ 0 := by
    unfold cflt; rw [if_pos h]; exact hf
   have hk := kids_bad fn ks _ hc
   unfold cflt at hk
   rw [if_pos h] at hk
   unfold cflt
   rw [if_pos h]
   exact ⟨hk.1, hk.2, hf⟩
theorem kids_agree (fn : Nm → Option Int) : ∀ (l : List Nd) (c : CS), c.code = 0 → Agree c (kidsR fn l c) (kidsP fn l c.set)
 | [], c, h => rfl
 | x :: r, c, h => by
  rw [kidsR, kidsP]
  have h1 := node_agree fn x c h
  cases hp : nodeP fn x c.set with
  | ok s =>
   rw [hp] at h1
   have h1 : nodeR fn x c = { c with set := s } := h1
   rw [h1]
   exact kids_agree fn r { c with set := s } h
  | error e =>
   rw [hp] at h1
   obtain ⟨h2, h3, h4⟩ := h1
   have h5 := kids_bad fn r (nodeR fn x c) (by rw [h2]; exact h4)
   exact ⟨h5.1.trans h2, h5.2.trans h3, h4⟩
end
end Go.Proofs.YtkcgldpedfafpaaGreat.chk

namespace Go.Proofs.YtkcgldpedfafpaaGreat.many
open Go Go.RowKit
open lex par chk
set_option linter.unusedVariables false
set_option maxRecDepth 1000000

def envOf (l : List UInt8) : PE := ⟨(scanL l).1, (scanL l).2.1, (scanL l).2.2⟩
def st0 : PS := ⟨0, 0, 0, 0⟩
/-- The functions with how many arguments. -/
def fnL : List (Nm × Int) := [([114, 101, 97, 100], 3), ([108, 105, 115, 116], 1), ([115, 116, 97, 116], 1), ([114, 101, 97, 100, 108, 105, 110, 107], 1), ([99, 114, 101, 97, 116, 101], 2), ([109, 107, 100, 105, 114], 2), ([115, 121, 109, 108, 105, 110, 107], 2), ([119, 114, 105, 116, 101], 3), ([116, 114, 117, 110, 99, 97, 116, 101], 2), ([99, 104, 109, 111, 100], 2), ([114, 101, 109, 111, 118, 101], 1), ([114, 109, 100, 105, 114], 1), ([114, 101, 110, 97, 109, 101], 2), ([111, 112, 101, 110], 1), ([114, 101, 97, 100, 102, 100], 3), ([119, 114, 105, 116, 101, 102, 100], 3), ([99, 108, 111, 115, 101], 1), ([99, 104, 100, 105, 114], 1), ([110, 117, 109], 1), ([116, 101, 120, 116], 1), ([108, 101, 110], 1), ([119, 104, 111, 108, 101], 1)]
def fnT (t : Nm) : Option Int := (fnL.find? fun x => x.1 == t).map (·.2)
/-- A script's check: 0 0, or the first fault's place and error; none: it is not read. -/
def chkS (l : List UInt8) (f m : Nat) : Option (Int × Int) := match stmtsR (envOf l) f m [] st0 with
 | some (ks, s) => if s.code = 0 then (match nodeP fnT (.mk 8 [] 0 ks 0) [] with
  | .ok _ => some (0, 0)
  | .error e => some e) else none
 | none => none
/-- do f(1, 1, ..); -/
def argsT : Nat → List UInt8
 | 0 => []
 | 1 => [49]
 | n + 2 => argsT (n + 1) ++ [44, 32, 49]
def doT (g : Nm) (k : Nat) : List UInt8 := [100, 111, 32] ++ g ++ [40] ++ argsT k ++ [41, 59]
end Go.Proofs.YtkcgldpedfafpaaGreat.many

namespace Go.Proofs.YtkcgldpedfafpaaGreat.many
open Go Go.RowKit
open lex par
set_option linter.unusedVariables false
set_option maxRecDepth 100000

def mkK (a : Nat) : List Tk := [⟨1, wMk, 0, a⟩, ⟨3, [100], 0, a + 6⟩, ⟨4, [59], 0, a + 9⟩]
theorem tk_at {E : PE} {i : Nat} {t : Tk} {b d : Int} (h : E.ts[i]? = some t) : tk E ⟨i, 0, b, d⟩ = tnOf t ∧ sT E ⟨i, 0, b, d⟩ = ⟨i, 0, b, d⟩ := by
 unfold tk sT
 rw [pT_ok (s := ⟨i, 0, b, d⟩) rfl h]
 exact ⟨rfl, rfl⟩
theorem must_at {E : PE} {i a : Nat} {b d : Int} (h : E.ts[i]? = some ⟨4, [59], 0, a⟩) : must E [59] ⟨i, 0, b, d⟩ = ⟨i + 1, 0, b, d⟩ := by
 have := tk_at (b := b) (d := d) h
 unfold must isS
 rw [this.1, this.2]; rfl
theorem text_at {E : PE} {i a : Nat} {u : List UInt8} {b d : Int} (h : E.ts[i]? = some ⟨3, u, 0, a⟩) : pText E ⟨i, 0, b, d⟩ = ((u, (a : Int)), ⟨i + 1, 0, b, d⟩) := by
 have := tk_at (b := b) (d := d) h
 unfold pText
 rw [this.1, this.2, if_neg (by simp [tnOf])]; rfl
/-- Three tokens from a place on. -/
def At3 (E : PE) (i : Nat) (l : List Tk) : Prop := ∀ j t, l[j]? = some t → E.ts[i + j]? = some t
theorem step_mk {E : PE} {i a f : Nat} {b d : Int} (h : At3 E i (mkK a)) : stepR E f ⟨i, 0, b, d⟩ = some (.mk 6 [100] 0 [] a, ⟨i + 3, 0, b, d⟩) := by
 have h0 := h 0 _ rfl
 rw [Nat.add_zero] at h0
 have h1 := h 1 _ rfl
 have h2 := h 2 _ rfl
 have t0 := tk_at (b := b) (d := d) h0
 have e2 := text_at (b := b) (d := d) h1
 have e3 := must_at (b := b) (d := d) h2
 unfold stepR isW
 rw [t0.1, t0.2]
 rw [if_neg (by simp [tnOf]; decide), if_neg (by simp [tnOf]; decide), if_pos (by simp [tnOf])]
 rw [show inc (⟨i, 0, b, d⟩ : PS) = ⟨i + 1, 0, b, d⟩ from rfl, e2]
 simp only
 rw [e3]
 rfl
end Go.Proofs.YtkcgldpedfafpaaGreat.many

namespace Go.Proofs.YtkcgldpedfafpaaGreat.chk
open Go Go.RowKit
open par (Nd)
set_option linter.unusedVariables false

abbrev Ft := Option (Int × Int)
def kidAt (ks : List Nd) (i : Nat) : Nd := ks.getD i par.zero
/-- A path's fault: place, error. -/
def pathF (okp : Nm → Bool) (t : Nm) (a : Int) : Ft := if okp t then none else some (a, 2002)
/-- A step's first fault; names: the stages ahead. -/
def stepF (fn : Nm → Option Int) (okp : Nm → Bool) (names : List Nm) (x : Nd) : Ft :=
 if x.kind = 4 then (match nodeP fn (kidAt x.kids 0) [] with
  | .ok _ => none
  | .error e => some e)
 else if x.kind = 3 then ((pathF okp x.text x.at').or ((pathF okp (kidAt x.kids 0).text (kidAt x.kids 0).at').or (if (kidAt x.kids 1).text = [] ∨ names.contains (kidAt x.kids 1).text = true then none else some ((kidAt x.kids 1).at', 2000))))
 else pathF okp x.text x.at'
def stepsF (fn : Nm → Option Int) (okp : Nm → Bool) (names : List Nm) : Nat → List Nd → Ft
 | _, [] => none
 | k, x :: r => (if 32 ≤ k then some (x.at', 2004) else none).or ((stepF fn okp names x).or (stepsF fn okp names (k + 1) r))
def stagesF (fn : Nm → Option Int) (okp : Nm → Bool) : Nat → List Nm → List Nd → Ft
 | _, _, [] => none
 | i, names, x :: r => (if 8 ≤ i then some (x.at', 2004) else none).or ((if (kidAt x.kids 0).text ≠ [] ∧ names.contains (kidAt x.kids 0).text = true then some ((kidAt x.kids 0).at', 2000) else none).or
   ((stepsF fn okp names 0 (x.kids.drop 1)).or (stagesF fn okp (i + 1) (if (kidAt x.kids 0).text ≠ [] then names ++ [(kidAt x.kids 0).text] else names) r)))
end Go.Proofs.YtkcgldpedfafpaaGreat.chk

namespace Go.Proofs.YtkcgldpedfafpaaGreat.many
open Go Go.RowKit
open lex par chk
set_option linter.unusedVariables false
set_option maxRecDepth 100000

/-- A recipe: Recipe of the document's parser, behind its first token. -/
def recipeR (E : PE) (f n m : Nat) (s : PS) : Option (Nd × PS) := match stageR E f n (sT E s) with
 | some (x, s2) => (match stagesR E f n m [x] s2 with
  | some (ks, s3) => some (.mk 1 [] 0 ks (tk E s).at', s3)
  | none => none)
 | none => none
end Go.Proofs.YtkcgldpedfafpaaGreat.many

namespace Go.Proofs.YtkcgldpedfafpaaGreat.many
open Go Go.RowKit
open lex par chk
set_option linter.unusedVariables false

/-- No token's text is longer. -/
def ShortT (E : PE) (B : Nat) : Prop := ∀ s : PS, (tk E s).text.length ≤ B
theorem short_of {E : PE} {B : Nat} (h : ∀ t ∈ E.ts, t.text.length ≤ B) : ShortT E B := by
 intro s
 unfold tk pT
 split
 ·exact Nat.zero_le _
 ·split
  ·rename_i t ht
   exact h t (List.mem_of_getElem? ht)
  ·exact Nat.zero_le _
theorem pText_len {E : PE} {B : Nat} (h : ShortT E B) (s : PS) : (pText E s).1.1.length ≤ B := by
 unfold pText
 split
 ·exact Nat.zero_le _
 ·exact h s
theorem pName_len {E : PE} {B : Nat} (h : ShortT E B) (s : PS) : (pName E s).1.1.length ≤ B := by
 unfold pName
 split
 ·exact Nat.zero_le _
 ·exact h s
theorem named_len {E : PE} {B : Nat} (h : ShortT E B) (w : List UInt8) (a : Int) (s : PS) : (named E w a s).1.text.length ≤ B ∧ (named E w a s).1.kind = 14 := by
 unfold named
 split
 ·exact ⟨pName_len h _, rfl⟩
 ·exact ⟨Nat.zero_le _, rfl⟩
def shortS (B : Nat) (x : Nd) : Prop := x.text.length ≤ B ∧ (x.kind = 3 → ∀ y ∈ x.kids, y.text.length ≤ B)
theorem step_short {E : PE} {B f : Nat} (h : ShortT E B) {s s2 : PS} {x : Nd} (hr : stepR E f s = some (x, s2)) : shortS B x := by
 unfold stepR at hr
 split at hr
 ·cases hr
  refine ⟨pText_len h _, fun _ y hy => ?_⟩
  rcases List.mem_cons.1 hy with e | hy
  ·subst e; exact pText_len h _
  ·rw [List.mem_singleton] at hy; subst hy; exact (named_len h _ _ _).1
 ·split at hr
  ·split at hr
   ·cases hr
    exact ⟨Nat.zero_le _, fun e => absurd e (by show ¬ (4 : Int) = 3; decide)⟩
   ·cases hr
  ·split at hr
   ·cases hr
    exact ⟨pText_len h _, fun _ y hy => by cases hy⟩
   ·cases hr
    exact ⟨Nat.zero_le _, fun _ y hy => by cases hy⟩
theorem steps_short {E : PE} {B f : Nat} (h : ShortT E B) (n : Nat) : ∀ (ks ks2 : List Nd) (s s2 : PS), (∀ y ∈ ks, shortS B y) → stepsR E f n ks s = some (ks2, s2) → ∀ y ∈ ks2, shortS B y := by
 induction n with
 | zero => intro ks ks2 s s2 _ hr; cases hr
 | succ n ih =>
  intro ks ks2 s s2 hk hr
  rw [stepsR] at hr
  split at hr
  ·cases hr; exact hk
  ·split at hr
   ·cases hr; exact hk
   ·split at hr
    ·rename_i x s3 hx
     refine ih _ _ _ _ (fun y hy => ?_) hr
     rcases List.mem_append.1 hy with hy | hy
     ·exact hk y hy
     ·rw [List.mem_singleton] at hy; subst hy; exact step_short h hx
    ·cases hr
theorem stage_short {E : PE} {B f n : Nat} (h : ShortT E B) {s s2 : PS} {x : Nd} (hr : stageR E f n s = some (x, s2)) : ∀ y ∈ x.kids, shortS B y := by
 unfold stageR at hr
 split at hr
 ·split at hr
  ·rename_i ks s3 hks
   cases hr
   refine steps_short h n _ _ _ _ (fun y hy => ?_) hks
   rw [List.mem_singleton] at hy; subst hy
   obtain ⟨h1, h2⟩ := named_len h wAs (tk E s).at' (pText E (inc (sT E s))).2
   exact ⟨h1, fun e => by rw [h2] at e; exact absurd e (by decide)⟩
  ·cases hr
 ·cases hr
  intro y hy; cases hy
theorem stages_short {E : PE} {B f n : Nat} (h : ShortT E B) (m : Nat) : ∀ (ks ks2 : List Nd) (s s2 : PS), (∀ x ∈ ks, ∀ y ∈ x.kids, shortS B y) → stagesR E f n m ks s = some (ks2, s2) → ∀ x ∈ ks2, ∀ y ∈ x.kids, shortS B y := by
 induction m with
 | zero => intro ks ks2 s s2 _ hr; cases hr
 | succ m ih =>
  intro ks ks2 s s2 hk hr
  rw [stagesR] at hr
  split at hr
  ·cases hr; exact hk
  ·split at hr
   ·cases hr; exact hk
   ·split at hr
    ·rename_i x s3 hx
     refine ih _ _ _ _ (fun y hy => ?_) hr
     rcases List.mem_append.1 hy with hy | hy
     ·exact hk y hy
     ·rw [List.mem_singleton] at hy; subst hy; exact stage_short h hx
    ·cases hr
theorem recipe_short {E : PE} {B f n m : Nat} (h : ShortT E B) {s s2 : PS} {x : Nd} (hr : recipeR E f n m s = some (x, s2)) : ∀ y ∈ x.kids, ∀ z ∈ y.kids, shortS B z := by
 unfold recipeR at hr
 split at hr
 ·rename_i x1 s1 h1
  split at hr
  ·rename_i ks s3 h2
   cases hr
   refine stages_short h m _ _ _ _ (fun y hy => ?_) h2
   rw [List.mem_singleton] at hy; subst hy; exact stage_short h h1
  ·cases hr
 ·cases hr
theorem tok_text {t : List UInt8} {x : Int × List UInt8 × Nat × Nat} (hx : tok t = .ok x) : x.2.1.length ≤ t.length + 1024 := by
 unfold tok at hx
 split at hx
 ·split at hx
  ·cases hx
  ·cases hx
   have := List.length_take_le (runB wordB t) t
   have h2 := runB_le wordB t
   show (t.take _).length ≤ _
   omega
 ·split at hx
  ·split at hx
   ·cases hx
   ·split at hx
    ·cases hx
    ·cases hx
     have := List.length_take_le (numEnd t) t
     have h2 := numEnd_le t
     show (t.take _).length ≤ _
     omega
  ·split at hx
   ·split at hx
    ·cases hx
    ·split at hx
     ·cases hx
     ·cases hx
      show _ ≤ t.length + 1024
      simp only
      omega
   ·split at hx
    ·cases hx
     show 2 ≤ t.length + 1024
     omega
    ·split at hx
     ·cases hx
      show 1 ≤ t.length + 1024
      omega
     ·cases hx
theorem scan_text (f : Nat) : ∀ (t : List UInt8) (a : Nat), ∀ k ∈ (scanF f t a).1, k.text.length ≤ t.length + 1024 := by
 induction f with
 | zero => intro t a k hk; cases hk
 | succ f ih =>
  intro t a k hk
  rw [scanF] at hk
  split at hk
  ·rw [List.mem_singleton] at hk
   subst hk
   exact Nat.zero_le _
  ·split at hk
   ·cases hk
   ·rename_i x hx
    rcases List.mem_cons.1 hk with e | hk
    ·subst e
     exact tok_text hx
    ·have := ih _ _ k hk
     simp only [List.length_drop] at this
     omega
theorem env_short (l : List UInt8) : ShortT (envOf l) 17408 := by
 refine short_of fun t ht => ?_
 unfold envOf scanL at ht
 simp only at ht
 split at ht
 ·cases ht
 ·have := scan_text _ _ _ t ht
  simp only [List.length_drop] at this
  omega
theorem recipe_ok {E : PE} {f n m : Nat} {s s2 : PS} {x : Nd} (hn : ms E s < n) (hm : ms E s < m) (hf : 16 * ms E s + 8 ≤ f) (hr : recipeR E f n m s = some (x, s2)) (h0 : s2.code = 0) : ∀ y ∈ x.kids, okStage y := by
 unfold recipeR at hr
 have hs := ms_sT E s
 by_cases hc : (sT E s).code = 0
 ·obtain ⟨x1, s1, h1, h2, h3⟩ := stage_ends E f n (sT E s) (by omega) (by omega) hc
  rw [h1] at hr
  simp only at hr
  obtain ⟨ks2, s3, h4, h5, h6⟩ := stages_ends E f n m [x1] s1 (by omega) (by omega) (by omega)
  rw [h4] at hr
  cases hr
  intro y hy
  rcases List.mem_append.1 (show y ∈ [x1] ++ ks2 from hy) with hy | hy
  ·rw [List.mem_singleton] at hy
   subst hy
   refine h3 (Classical.byContradiction fun h9 => ?_)
   have := ms_bad (E := E) h9
   exact ms_zero (E := E) (s := s2) (by omega) h0
  ·exact h6 h0 y hy
 ·have hst : stageR E f n (sT E s) = some (.mk 2 [] 0 [] (tk E (sT E s)).at', wrong E (sT E (sT E s))) := by
   unfold stageR
   have : isW E wFrom (sT E s) = false := by
    unfold isW tk pT
    rw [if_pos hc]
    rfl
   rw [if_neg (by rw [this]; decide)]
  rw [hst] at hr
  simp only at hr
  cases m with
  | zero => omega
  | succ m =>
   rw [stagesR, if_pos (wrong_code _ _)] at hr
   cases hr
   exact absurd h0 (wrong_code _ _)
end Go.Proofs.YtkcgldpedfafpaaGreat.many

namespace Go.Proofs.YtkcgldpedfafpaaGreat.many
open Go Go.RowKit
open lex par chk
set_option linter.unusedVariables false
set_option maxRecDepth 1000000

theorem awake_doF : chkS (doT [110, 111, 116, 104, 105, 110, 103] 1) 1600024 20 = some (3, 2001) := by decide +kernel
end Go.Proofs.YtkcgldpedfafpaaGreat.many
