/-
  Proved: what LendLayer and KeptEntries do of a layer's entries. Conditions: as each theorem says.
  Proved: what KeptEntries does, and the document's Encode of a layer that came in. Conditions: as each theorem says.
-/
import Derived.Test.YtifhnpkapgaboaaGreatPj26
import Derived.Deep.Upon
set_option linter.unusedVariables false
set_option linter.unusedSimpArgs false
namespace Go.Proofs.YtifhnpkapgaboaaGreat.arch
open Go.RowKit
open heap
open path (sv str_size)
set_option maxRecDepth 100000
def EIn (w:World) (A:Option Addr) (c:Nat) (es:List Ent):Prop:=es.length ≤ c ∧ (es = [] ∨ ∃ b o,A = some ⟨b,o,none⟩ ∧ EAt w b o es)
theorem EIn.below {w w':World} {A:Option Addr} {c:Nat} {es:List Ent} (h:EIn w A c es) (hb:Below w.heap.size w w'):EIn w' A c es:=⟨h.1,h.2.imp id fun ⟨b,o,h1,h2⟩=>⟨b,o,h1,h2.below hb⟩⟩
theorem EAt.left {w:World} {b o:Nat} {es fs:List Ent} (h:EAt w b o (es ++ fs)):EAt w b o es:=by
 have:=h.take es.length
 rwa [List.take_left'] at this
 rfl
theorem eq_ent (d e:Ent) (w:World):(Op.equalIn 10000 58 (entV d) (entV e)).run Tryz.prog w = .ok (decide (d = e)) w:=by
 have u3:=Tryz.underlying3
 have u9:=Tryz.underlying9
 rw [show (10000:Nat) = 9999 + 1 from rfl,run_equalIn_struct w 9999 58 _ _ (by kernel_rfl) (by kernel_rfl)]
 simp only [Program.fieldsOf,Tryz.underlying58]
 obtain ⟨p,k,m,x⟩:=d
 obtain ⟨p',k',m',x'⟩:=e
 have hs:∀ a b:Nm,((⟨a.toArray⟩:ByteArray) == ⟨b.toArray⟩) = decide (a = b):=fun a b=>by
  rw [Bool.eq_iff_iff,MapKept.bytes_beq,maps.str_inj];simp
 go_simp
 by_cases h1:p = p' <;> by_cases h2:k = k' <;> by_cases h3:m = m' <;> by_cases h4:x = x' <;> simp [h1,h2,h3,h4,hs]
theorem neql_ent (d e:Ent) (w:World):(binOp .neq 58 (entV d) (entV e)).run Tryz.prog w = .ok (.bool (!decide (d = e))) w:=by
 rw [run_neq_struct,eq_ent];rfl
end Go.Proofs.YtifhnpkapgaboaaGreat.arch
