/-
  Proved: what the program's EncodeImage does. Conditions: as each theorem says.
-/
import Derived.Test.YtifhnpkapgaboaaGreatPj39
import Derived.Test.YtifhnpkapgaboaaGreatPj40
import Derived.Test.YtifhnpkapgaboaaGreatPj41
set_option linter.unusedVariables false
set_option linter.unusedSimpArgs false
namespace Go.Proofs.YtifhnpkapgaboaaGreat.arch
open Go.RowKit
open heap
open path (sv str_size)
open fld (Fld FldP applyF ApP Apply_any Many_any tur_new)
set_option maxRecDepth 100000
def LIn (w:World) (A:Option Addr) (c:Nat) (ls:List (List Ent)):Prop:=ls.length ≤ c ∧ (ls = [] ∨ ∃ b o,A = some ⟨b,o,none⟩ ∧ ∀ (i:Nat) (es:List Ent),ls[i]? = some es → ∃ Ai ci,w.cell? ⟨b,o + i,none⟩ = some (.slice Ai es.length ci) ∧ EIn w Ai ci es ∧ ci ≤ 9223372036854775807)
theorem cell_below {w w':World} (hb:Below w.heap.size w w') {a:Addr} {v:Value} (h:w.cell? a = some v):w'.cell? a = some v:=(Turned.of_below (S := []) hb).cell h (by simp)
theorem LIn.below {w w':World} {A:Option Addr} {c:Nat} {ls:List (List Ent)} (h:LIn w A c ls) (hb:Below w.heap.size w w'):LIn w' A c ls:=
 ⟨h.1,h.2.imp id fun ⟨b,o,h1,h2⟩=>⟨b,o,h1,fun i es hi=>by
  obtain ⟨Ai,ci,k1,k2,k3⟩:=h2 i es hi
  exact ⟨Ai,ci,cell_below hb k1,k2.below hb,k3⟩⟩⟩
theorem ERow.ein {w:World} {base:Nat} {v:Value} {es:List Ent} (h:ERow w base v es):∃ A c,v = .slice A es.length c ∧ EIn w A c es ∧ c ≤ 9223372036854775807:=by
 obtain ⟨A,g,c,rfl,h1,h2,h3,h4⟩:=h.slice
 refine ⟨A,c,rfl,⟨h1,?_⟩,h2⟩
 by_cases h0:es = []
 ·exact .inl h0
 ·exact .inr ⟨g,0,(h3 h0).1,h4⟩
theorem LRow.lin {w:World} {base:Nat} {v:Value} {ls:List (List Ent)} {vs:List Value} (h:LRow w base v ls vs):∃ A c,v = .slice A ls.length c ∧ LIn w A c ls ∧ c ≤ 9223372036854775807:=by
 obtain ⟨A,g,c,rfl,h1,h2,h3,h4⟩:=h.slice
 refine ⟨A,c,rfl,⟨h1,?_⟩,h2⟩
 by_cases h0:ls = []
 ·exact .inl h0
 ·refine .inr ⟨g,0,(h3 h0).1,fun i es hi => ?_⟩
  obtain ⟨u,k1,k2⟩:=h.inn i es hi
  obtain ⟨Ai,ci,rfl,q2,q3⟩:=k2.ein
  exact ⟨Ai,ci,by rw [Nat.zero_add];exact h4 i _ k1,q2,q3⟩
end Go.Proofs.YtifhnpkapgaboaaGreat.arch
