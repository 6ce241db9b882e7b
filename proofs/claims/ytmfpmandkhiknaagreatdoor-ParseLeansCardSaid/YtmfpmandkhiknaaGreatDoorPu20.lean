/-
  Proved: what the document's scanner and parser make of a recipe of so many stages and steps (plain). Conditions: as each theorem says. No program is in sight.
  Proved: the document's check of a tree and the program's come to the same (plain). Conditions: as each theorem says. No program is in sight.
  Proved: nothing yet beyond definitions: the first fault of a recipe (plain). No program is in sight.
  Proved: the tree of a recipe of so many stages and steps, and its first fault (plain). Conditions: as each theorem says. No program is in sight.
  Proved: what the document's scanner, parser and checker make of the scripts that CheckArgs and CheckMany write (plain). Conditions: as each theorem says. No program is in sight.
-/
import Derived.Test.YtmfpmandkhiknaaGreatDoorPu6
set_option linter.unusedVariables false
set_option linter.unusedSimpArgs false
namespace Go.Proofs.YtmfpmandkhiknaaGreatDoor.many
open Go Go.RowKit
open lex par
set_option maxRecDepth 100000
def mkK (a:Nat):List Tk := [⟨1,wMk,0,a⟩,⟨3,[100],0,a + 6⟩,⟨4,[59],0,a + 9⟩]
theorem tk_at {E:PE} {i:Nat} {t:Tk} {b d:Int} (h:E.ts[i]? = some t):tk E ⟨i,0,b,d⟩ = tnOf t ∧ sT E ⟨i,0,b,d⟩ = ⟨i,0,b,d⟩:=by
 unfold tk sT
 rw [pT_ok (s:=⟨i,0,b,d⟩) rfl h]
 exact ⟨rfl,rfl⟩
theorem must_at {E:PE} {i a:Nat} {b d:Int} (h:E.ts[i]? = some ⟨4,[59],0,a⟩):must E [59] ⟨i,0,b,d⟩ = ⟨i + 1,0,b,d⟩:=by
 have:=tk_at (b:=b) (d:=d) h
 unfold must isS
 rw [this.1,this.2];rfl
theorem text_at {E:PE} {i a:Nat} {u:List UInt8} {b d:Int} (h:E.ts[i]? = some ⟨3,u,0,a⟩):pText E ⟨i,0,b,d⟩ = ((u,(a:Int)),⟨i + 1,0,b,d⟩):=by
 have:=tk_at (b:=b) (d:=d) h
 unfold pText
 rw [this.1,this.2,if_neg (by simp [tnOf])];rfl
def At3 (E:PE) (i:Nat) (l:List Tk):Prop:=∀ j t,l[j]? = some t → E.ts[i + j]? = some t
theorem step_mk {E:PE} {i a f:Nat} {b d:Int} (h:At3 E i (mkK a)):stepR E f ⟨i,0,b,d⟩ = some (.mk 6 [100] 0 [] a,⟨i + 3,0,b,d⟩):=by
 have h0:=h 0 _ rfl
 rw [Nat.add_zero] at h0
 have h1:=h 1 _ rfl
 have h2:=h 2 _ rfl
 have t0:=tk_at (b:=b) (d:=d) h0
 have e2:=text_at (b:=b) (d:=d) h1
 have e3:=must_at (b:=b) (d:=d) h2
 unfold stepR isW
 rw [t0.1,t0.2]
 rw [if_neg (by simp [tnOf];decide),if_neg (by simp [tnOf];decide),if_pos (by simp [tnOf])]
 rw [show inc (⟨i,0,b,d⟩:PS) = ⟨i + 1,0,b,d⟩ from rfl,e2]
 simp only
 rw [e3]
 rfl
end Go.Proofs.YtmfpmandkhiknaaGreatDoor.many
namespace Go.Proofs.YtmfpmandkhiknaaGreatDoor.chk
open Go Go.RowKit
open par (Nd)
abbrev Nm:=List UInt8
def after (k:Int) (t:Nm) (set:List Nm):List Nm:=if k = 9 ∧ set.contains t = false then set ++ [t] else set
end Go.Proofs.YtmfpmandkhiknaaGreatDoor.chk
namespace Go.Proofs.YtmfpmandkhiknaaGreatDoor.many
open Go Go.RowKit
open lex par chk
set_option maxRecDepth 100000
def recipeR (E:PE) (f n m:Nat) (s:PS):Option (Nd × PS):=match stageR E f n (sT E s) with
 | some (x,s2)=>(match stagesR E f n m [x] s2 with
  | some (ks,s3)=>some (.mk 1 [] 0 ks (tk E s).at',s3)
  | none=>none)
 | none=>none
end Go.Proofs.YtmfpmandkhiknaaGreatDoor.many
namespace Go.Proofs.YtmfpmandkhiknaaGreatDoor.many
open Go Go.RowKit
open lex par chk
set_option maxRecDepth 1000000
def envOf (l:List UInt8):PE:=⟨(scanL l).1,(scanL l).2.1,(scanL l).2.2⟩
def st0:PS:=⟨0,0,0,0⟩
end Go.Proofs.YtmfpmandkhiknaaGreatDoor.many
