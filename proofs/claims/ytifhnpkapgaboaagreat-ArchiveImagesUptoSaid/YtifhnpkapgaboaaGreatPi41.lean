/-
  Proved: what the statements' functions on images do: copied, compared. Conditions: as each theorem says.
  Proved: what a slice of api.Entry that comes in holds. Conditions: as each theorem says.
-/
import Derived.Test.YtifhnpkapgaboaaGreatPi38
import Derived.Test.YtifhnpkapgaboaaGreatPi29
import Derived.Test.YtifhnpkapgaboaaGreatRows
import Derived.Deep.Slices
import Derived.Deep.Fields
import Derived.ChangeSame
import Derived.OpenShut
import Derived.Lib.SmallJoins
set_option linter.unusedVariables false
set_option linter.unusedSimpArgs false
namespace Go.Proofs.YtifhnpkapgaboaaGreat.arch
open Go.RowKit
open heap
open path (sv str_size)
set_option maxRecDepth 100000
end Go.Proofs.YtifhnpkapgaboaaGreat.arch
namespace Go.Proofs.YtifhnpkapgaboaaGreat.arch
open Go.RowKit Go.ChangeShapes Go.WideShapes Go.Deep
set_option maxRecDepth 100000
section
variable {H:Type} {enc:TypeId × Value → H} {P:Program} {w:World} {base:Nat} {spare:Nat → Bool} {held:Bool}
theorem trod_struct4 {t:TypeId} {f0 f1 f2 f3:Field} {fuel:Nat} {cs:List Value} {x:DataW H × List MemPlace} (ht:P.underlying t = some (.struct #[f0,f1,f2,f3])) (h:DataW.trod enc P w base spare held fuel t cs = some x) :
  ∃ y0 y1 y2 y3 n,x.1 = .agg [y0.1,y1.1,y2.1,y3.1] ∧ cs.length = P.cellsOf t ∧ DataW.trod enc P w base spare held n f0.type ((cs.drop f0.offset).take (P.cellsOf f0.type)) = some y0 ∧
   DataW.trod enc P w base spare held n f1.type ((cs.drop f1.offset).take (P.cellsOf f1.type)) = some y1 ∧ DataW.trod enc P w base spare held n f2.type ((cs.drop f2.offset).take (P.cellsOf f2.type)) = some y2 ∧ DataW.trod enc P w base spare held n f3.type ((cs.drop f3.offset).take (P.cellsOf f3.type)) = some y3:=by
 obtain ⟨xs,n,_,rfl,hl,hlen,hf⟩:=DataW.trod_struct ht h
 match xs,hlen with
 | [y0,y1,y2,y3],_=>exact ⟨y0,y1,y2,y3,n,by simp,hl,by simpa using hf 0 f0 rfl,by simpa using hf 1 f1 rfl,by simpa using hf 2 f2 rfl,by simpa using hf 3 f3 rfl⟩
def entW (e:Ent):DataW H:=.agg [.lit (.string e.path),.lit (.int .i64 e.kind),.lit (.int .i64 e.mode),.lit (.string e.data)]
theorem bulk_ent (e:Ent):Rows.uptoBulk (entW (H:=H) e) = e.path.length + e.data.length + 5:=by
 simp only [entW,Rows.uptoBulk,Rows.uptoBulkAll];omega
theorem bulk_ents:∀ (es:List Ent),es.length ≤ Rows.uptoBulkAll (es.map (entW (H:=H))) ∧ ∀ e ∈ es,e.path.length + e.data.length ≤ Rows.uptoBulkAll (es.map (entW (H:=H)))
 | []=>⟨Nat.zero_le _,fun e h=>by cases h⟩
 | x :: es=>by
  obtain ⟨h1,h2⟩:=bulk_ents es
  have hb:=bulk_ent (H:=H) x
  simp only [List.map_cons,Rows.uptoBulkAll,List.length_cons]
  refine ⟨by omega,fun e he => ?_⟩
  rcases List.mem_cons.1 he with rfl | he
  ·omega
  ·have:=h2 e he;omega
end
theorem ent_open {H:Type} {enc:TypeId × Value → H} {w:World} {base:Nat} {spare:Nat → Bool} {held:Bool} {n:Nat} {cs:List Value} {x:DataW H × List MemPlace}
  (h:DataW.trod enc Tryz.prog w base spare held n 58 cs = some x):∃ e:Ent,cs = [.string ⟨e.path.toArray⟩,.int .i64 e.kind,.int .i64 e.mode,.string ⟨e.data.toArray⟩] ∧ x.1 = entW e:=by
 obtain ⟨y0,y1,y2,y3,m,hx,hl,h0,h1,h2,h3⟩:=trod_struct4 Tryz.underlying58 h
 have hC:Tryz.prog.cellsOf 58 = 4:=by kernel_rfl
 have hi:Tryz.prog.cellsOf 3 = 1:=by kernel_rfl
 have hs:Tryz.prog.cellsOf 9 = 1:=by kernel_rfl
 rw [hC] at hl
 match cs,hl with
 | [c0,c1,c2,c3],_ =>
  simp [hi,hs] at h0 h1 h2 h3
  obtain ⟨s0,e0,rfl,-⟩:=DataW.trod_string Tryz.underlying9 h0
  obtain ⟨z1,e1,rfl,-⟩:=DataW.trod_int Tryz.underlying3 h1
  obtain ⟨z2,e2,rfl,-⟩:=DataW.trod_int Tryz.underlying3 h2
  obtain ⟨s3,e3,rfl,-⟩:=DataW.trod_string Tryz.underlying9 h3
  simp at e0 e1 e2 e3
  subst e0 e1 e2 e3
  exact ⟨⟨s0.data.toList,z1,z2,s3.data.toList⟩,rfl,hx⟩
theorem add4 (A:Addr) (i j:Nat) (h:A.spot = none):(A.add i).add j = ⟨A.block,A.off + i + j,none⟩:=by
 obtain ⟨b,o,s⟩:=A
 subst h
 simp only [Addr.add]
 by_cases hi:i = 0 <;> by_cases hj:j = 0 <;> simp [hi,hj]
theorem entries_open {H:Type} {enc:TypeId × Value → H} {w:World} {base:Nat} {spare:Nat → Bool} {held:Bool} {fuel:Nat} {v:Value} {x:DataW H × List MemPlace}
  (h:DataW.trod enc Tryz.prog w base spare held fuel 41 [v] = some x) :
  ∃ (A:Option Addr) (es:List Ent) (c:Nat),v = .slice A es.length c ∧ EIn w A c es ∧ c ≤ maxLen ∧ ((es = [] ∧ x.1 = .nil) ∨ ∃ sp,x.1 = .slice (es.map entW) sp):=by
 rcases open_slice Tryz.underlying41 h with ⟨h0,hx⟩ | ⟨A,l,c,m,n,D,Pl,hcs,hb,hl,hm,hmm,hx,hi⟩
 ·simp at h0
  exact ⟨none,[],0,h0,⟨Nat.le_refl _,.inl rfl⟩,Nat.zero_le _,.inl ⟨rfl,by rw [hx]⟩⟩
 ·simp at hcs
  have hml:l ≤ m:=by rw [hmm];split <;> omega
  have hC:Tryz.prog.cellsOf 58 = 4:=by kernel_rfl
  rw [hC] at hi
  have key:∀ i,∃ e:Ent,i < l → D i = entW e ∧ w.cell? ((A.add (i * 4)).add 0) = some (.string ⟨e.path.toArray⟩) ∧ w.cell? ((A.add (i * 4)).add 1) = some (.int .i64 e.kind) ∧ w.cell? ((A.add (i * 4)).add 2) = some (.int .i64 e.mode) ∧ w.cell? ((A.add (i * 4)).add 3) = some (.string ⟨e.data.toArray⟩):=by
   intro i
   by_cases hil:i < l
   ·obtain ⟨cs,hc,ht⟩:=hi i (by omega)
    obtain ⟨e,rfl,he⟩:=ent_open ht
    obtain ⟨_,hlen,hat⟩:=World.cells?_some hc
    exact ⟨e,fun _=>⟨he,hat 0 (by omega),hat 1 (by omega),hat 2 (by omega),hat 3 (by omega)⟩⟩
   ·exact ⟨e0,fun h=>absurd h hil⟩
  obtain ⟨ex,hst⟩:=Classical.axiomOfChoice key
  have hlen:((List.range l).map ex).length = l:=by simp
  have hD:(List.range l).map D = ((List.range l).map ex).map entW:=by
   rw [List.map_map]
   exact List.map_congr_left (fun i hi=>(hst i (List.mem_range.1 hi)).1)
  refine ⟨some A,(List.range l).map ex,c,by rw [hlen];exact hcs,⟨by rw [hlen];exact hl,?_⟩,hm,.inr ⟨_,by rw [hx,hD]⟩⟩
  by_cases hl0:l = 0
  ·left;subst hl0;rfl
  ·right
   obtain ⟨b,off,spot⟩:=A
   have hspot:spot = none:=by
    have:=(hst 0 (by omega)).2.1
    simpa [Addr.add] using World.cell?_spot this
   subst hspot
   refine ⟨b,off,rfl,fun i e he => ?_⟩
   have hil:i < l:=by
    have:=(List.getElem?_eq_some_iff.1 he).1
    rwa [hlen] at this
   have hee:ex i = e:=by
    rw [List.getElem?_map,List.getElem?_range hil] at he
    simpa using he
   subst hee
   obtain ⟨-,g0,g1,g2,g3⟩:=hst i hil
   rw [add4 _ _ _ rfl] at g0 g1 g2 g3
   exact ⟨g0,g1,g2,g3⟩
end Go.Proofs.YtifhnpkapgaboaaGreat.arch
