/-
  Proved: rows of entries of the call's own: how they read, how one is put behind. Conditions: as each theorem says.
-/
import Derived.Test.YtifhnpkapgaboaaGreatPj18
import Derived.Deep.AppendLies
set_option linter.unusedVariables false
set_option linter.unusedSimpArgs false
namespace Go.Proofs.YtifhnpkapgaboaaGreat.arch
open Go.RowKit
open heap
open path (sv str_size)
set_option maxRecDepth 100000
def entC (e:Ent):List Value := [.string ⟨e.path.toArray⟩,.int .i64 e.kind,.int .i64 e.mode,.string ⟨e.data.toArray⟩]
def rowE (es:List Ent):List Value:=(es.map entC).flatten
theorem rowE_snoc (es:List Ent) (e:Ent):rowE (es ++ [e]) = rowE es ++ entC e:=by simp [rowE]
theorem rowE_get:∀ (es:List Ent) (i:Nat) (e:Ent),es[i]? = some e → (rowE es)[i * 4]? = some (.string ⟨e.path.toArray⟩) ∧ (rowE es)[i * 4 + 1]? = some (.int .i64 e.kind) ∧ (rowE es)[i * 4 + 2]? = some (.int .i64 e.mode) ∧ (rowE es)[i * 4 + 3]? = some (.string ⟨e.data.toArray⟩)
 | [],i,e,h=>by simp at h
 | x :: es,0,e,h=>by
  simp at h
  subst h
  exact ⟨rfl,rfl,rfl,rfl⟩
 | x :: es,i + 1,e,h=>by
  have:=rowE_get es i e (by simpa using h)
  have l4:(entC x).length = 4:=rfl
  show (entC x ++ rowE es)[(i + 1) * 4]? = _ ∧ (entC x ++ rowE es)[(i + 1) * 4 + 1]? = _ ∧ (entC x ++ rowE es)[(i + 1) * 4 + 2]? = _ ∧ (entC x ++ rowE es)[(i + 1) * 4 + 3]? = _
  rw [List.getElem?_append_right (by rw [l4];omega),List.getElem?_append_right (by rw [l4];omega),List.getElem?_append_right (by rw [l4];omega),List.getElem?_append_right (by rw [l4];omega),l4]
  rw [show (i + 1) * 4 - 4 = i * 4 by omega,show (i + 1) * 4 + 1 - 4 = i * 4 + 1 by omega,show (i + 1) * 4 + 2 - 4 = i * 4 + 2 by omega,show (i + 1) * 4 + 3 - 4 = i * 4 + 3 by omega]
  exact this
def ERow (w:World) (base:Nat) (v:Value) (es:List Ent):Prop:=w.ownsRow base 58 4 v es.length (rowE es)
theorem infoE:(Tryz.prog.info? 58).map (fun i=>(i.zero,i.size,i.bytes)) = some (some (.agg #[.string ⟨#[]⟩,.int .i64 0,.int .i64 0,.string ⟨#[]⟩]),4,48):=by kernel_rfl
theorem eadd0 (g j:Nat):(⟨g,0,none⟩:Addr).add j = ⟨g,j,none⟩:=by unfold Addr.add;split <;> simp_all
theorem ERow.slice {w:World} {base:Nat} {v:Value} {es:List Ent} (h:ERow w base v es):∃ (A:Option Addr) (g c:Nat),v = .slice A es.length c ∧ es.length ≤ c ∧ c ≤ 9223372036854775807 ∧ (es ≠ [] → A = some ⟨g,0,none⟩ ∧ base ≤ g ∧ g < w.heap.size) ∧ EAt w g 0 es:=by
 have hcl := @World.ownsRow.cells _ _ _ _ _ _ _ h
 obtain ⟨hl,⟨hv,h0⟩ | ⟨g,c,cur,hv,h2,h3,h4,h5,_⟩⟩:=h
 ·have he:es = []:=List.length_eq_zero_iff.1 h0
  subst he
  exact ⟨none,0,0,hv,Nat.le_refl _,by omega,fun h=>absurd rfl h,EAt.nil _ _ _⟩
 ·refine ⟨_,g,c,hv,h4,by unfold maxLen at h5;omega,fun _=>⟨rfl,h2,blk_lt h3⟩,fun i e he => ?_⟩
  have hg:v.ownBlock = some g:=by rw [hv];rfl
  obtain ⟨r0,r1,r2,r3⟩:=rowE_get es i e he
  have k0:=hcl hg _ _ r0
  have k1:=hcl hg _ _ r1
  have k2:=hcl hg _ _ r2
  have k3:=hcl hg _ _ r3
  rw [eadd0] at k0 k1 k2 k3
  rw [Nat.zero_add]
  exact ⟨k0,k1,k2,k3⟩
theorem ERow.kept {w w':World} {base:Nat} {v:Value} {es:List Ent} (h:ERow w base v es) (hk:∀ g ∈ v.ownBlock.toList,w'.heap[g]? = w.heap[g]?):ERow w' base v es:=by
 obtain ⟨hl,h1 | ⟨g,c,cur,rfl,h2,h3,h4⟩⟩:=h
 ·exact ⟨hl,.inl h1⟩
 ·exact ⟨hl,.inr ⟨g,c,cur,rfl,h2,by rw [hk g (by simp [Value.ownBlock])];exact h3,h4⟩⟩
theorem ERow.lt {w:World} {base:Nat} {v:Value} {es:List Ent} (h:ERow w base v es):∀ g ∈ v.ownBlock.toList,base ≤ g ∧ g < w.heap.size:=fun g hg=>World.ownsRow.lt h g (by simpa using hg)
theorem ERow.turned {w w':World} {base:Nat} {v:Value} {es:List Ent} {S:List Nat} (h:ERow w base v es) (ht:Turned S w w') (hS:∀ g ∈ v.ownBlock.toList,g ∉ S):ERow w' base v es:=h.kept (fun g hg=>ht.block g (h.lt g hg).2 (hS g hg))
theorem ERow.below {w w':World} {base:Nat} {v:Value} {es:List Ent} (h:ERow w base v es) (hb:Below w.heap.size w w'):ERow w' base v es:=h.kept (fun g hg=>hb.block g (h.lt g hg).2)
theorem ERow.nil (w:World) (base:Nat):ERow w base (.slice none 0 0) []:=World.ownsRow_nil _ _ _ _
theorem entC_one (e:Ent):∀ u ∈ entC e,u.oneCell' = true:=by
 intro u hu
 simp only [entC,List.mem_cons,List.not_mem_nil,or_false] at hu
 rcases hu with rfl | rfl | rfl | rfl <;> rfl
theorem ERow.app {w:World} {base h:Nat} {v:Value} {es:List Ent} {e:Ent} (hr:ERow w base v es) (hh:w.heap[h]? = some (entO e)) (hn:es.length ≤ 1000000) (hb:base ≤ w.heap.size) :
  ∃ g cap W2,(Builtin.append_ #[41,41] 41 #[v,.slice (some ⟨h,0,none⟩) 1 1]).run Tryz.prog w = .ok (.slice (some ⟨g,0,none⟩) (es.length + 1) cap) W2 ∧ ERow W2 base (.slice (some ⟨g,0,none⟩) (es.length + 1) cap) (es ++ [e]) ∧ Turned v.ownBlock.toList w W2:=by
 obtain ⟨i0,hi,hz0,hz1,hz2⟩:=info_parts infoE
 obtain ⟨g,cap,w',h1,h2,h3,h4,_⟩:=run_append_lies (P:=Tryz.prog) (w:=w) 41 41 base 58 i0 _ 4 48 Tryz.underlying41 hi hz0 hz1 hz2 rfl (by decide) v es.length _ hr ⟨h,0,none⟩ 1 1 (entC e) rfl
  (fun j u hu=>by rw [eadd0,blk_cell hh];simpa [entC] using hu) (entC_one e) (by decide) (by unfold maxLen;omega) (by omega) hb _ rfl
 refine ⟨g,cap,w',h1,?_,⟨h3.os,h3.tape,h3.output,h3.size,fun b hb hn=>h3.block b hb (fun e=>hn (by simp [← e]))⟩⟩
 unfold ERow
 rw [List.length_append,rowE_snoc]
 exact h2
end Go.Proofs.YtifhnpkapgaboaaGreat.arch
