/-
  Proved: rows of layers in memory; what the program's DecodeImage does inside. Conditions: as each theorem says.
-/
import Derived.Test.YtifhnpkapgaboaaGreatPj37
import Derived.Test.YtifhnpkapgaboaaGreatPj25
set_option linter.unusedVariables false
set_option linter.unusedSimpArgs false
namespace Go.Proofs.YtifhnpkapgaboaaGreat.arch
open Go.RowKit
open heap
open path (sv str_size)
open fld (Fld FldP applyF tur_new)
set_option maxRecDepth 100000
structure LRow (w:World) (base:Nat) (v:Value) (ls:List (List Ent)) (vs:List Value):Prop where
 row:w.ownsRow base 44 1 v ls.length vs
 inn:∀ (i:Nat) (es:List Ent),ls[i]? = some es → ∃ u,vs[i]? = some u ∧ ERow w base u es
theorem LRow.len {w:World} {base:Nat} {v:Value} {ls:List (List Ent)} {vs:List Value} (h:LRow w base v ls vs):vs.length = ls.length:=by have:=h.row.1;omega
theorem LRow.nil (w:World) (base:Nat):LRow w base (.slice none 0 0) [] []:=⟨World.ownsRow_nil _ _ _ _,fun i es h=>by simp at h⟩
theorem own_kept {w w':World} {base k n:Nat} {T:TypeId} {v:Value} {xs:List Value} (h:w.ownsRow base T k v n xs) (hk:∀ g ∈ v.ownBlock.toList,w'.heap[g]? = w.heap[g]?):w'.ownsRow base T k v n xs:=by
 obtain ⟨hl,h1 | ⟨g,c,cur,rfl,h2,h3,h4⟩⟩:=h
 ·exact ⟨hl,.inl h1⟩
 ·exact ⟨hl,.inr ⟨g,c,cur,rfl,h2,by rw [hk g (by simp [Value.ownBlock])];exact h3,h4⟩⟩
theorem own_base {w:World} {b b' k n:Nat} {T:TypeId} {v:Value} {xs:List Value} (h:w.ownsRow b T k v n xs) (hb:b' ≤ b):w.ownsRow b' T k v n xs:=by
 obtain ⟨hl,h1 | ⟨g,c,cur,rfl,h2,h3⟩⟩:=h
 ·exact ⟨hl,.inl h1⟩
 ·exact ⟨hl,.inr ⟨g,c,cur,rfl,Nat.le_trans hb h2,h3⟩⟩
theorem own_blk {w:World} {base k n:Nat} {T:TypeId} {v:Value} {xs:List Value} (h:w.ownsRow base T k v n xs):∀ g ∈ v.ownBlock.toList,base ≤ g ∧ g < w.heap.size ∧ ∃ cur,w.heap[g]? = some (.cells cur T (0,0)):=by
 obtain ⟨hl,⟨rfl,-⟩ | ⟨g,c,cur,rfl,h2,h3,h4⟩⟩:=h
 ·intro g hg;simp [Value.ownBlock] at hg
 ·intro g' hg
  simp [Value.ownBlock] at hg
  subst hg
  exact ⟨h2,blk_lt h3,cur,h3⟩
theorem LRow.mem {w:World} {base:Nat} {v:Value} {ls:List (List Ent)} {vs:List Value} (h:LRow w base v ls vs) {u:Value} (hu:u ∈ vs):∃ es,ERow w base u es:=by
 obtain ⟨i,hi⟩:=List.mem_iff_getElem?.1 hu
 have hl:=h.len
 have:i < ls.length:=by rw [← hl];exact (List.getElem?_eq_some_iff.1 hi).1
 obtain ⟨u2,h1,h2⟩:=h.inn i ls[i] (List.getElem?_eq_getElem this)
 rw [hi] at h1
 cases h1
 exact ⟨_,h2⟩
theorem LRow.turned {w w':World} {base:Nat} {v:Value} {ls:List (List Ent)} {vs:List Value} {S:List Nat} (h:LRow w base v ls vs) (ht:Turned S w w') (hS:∀ u ∈ v :: vs,∀ g ∈ u.ownBlock.toList,g ∉ S):LRow w' base v ls vs:=
 ⟨own_kept h.row (fun g hg=>ht.block g (own_blk h.row g hg).2.1 (hS v (List.mem_cons_self ..) g hg)),fun i es hi=>by
  obtain ⟨u,h1,h2⟩:=h.inn i es hi
  exact ⟨u,h1,h2.turned ht (hS u (List.mem_cons_of_mem _ (List.mem_of_getElem? h1)))⟩⟩
theorem LRow.lt {w:World} {base:Nat} {v:Value} {ls:List (List Ent)} {vs:List Value} (h:LRow w base v ls vs):∀ u ∈ v :: vs,∀ g ∈ u.ownBlock.toList,base ≤ g ∧ g < w.heap.size ∧ ∃ cur T,w.heap[g]? = some (.cells cur T (0,0)) ∧ (T = 44 ∨ T = 58):=by
 intro u hu g hg
 rcases List.mem_cons.1 hu with rfl | hu
 ·obtain ⟨h1,h2,cur,h3⟩:=own_blk h.row g hg
  exact ⟨h1,h2,cur,_,h3,.inl rfl⟩
 ·obtain ⟨es,he⟩:=h.mem hu
  obtain ⟨h1,h2,cur,h3⟩:=own_blk he g hg
  exact ⟨h1,h2,cur,_,h3,.inr rfl⟩
theorem LRow.low {w w':World} {base:Nat} {v:Value} {ls:List (List Ent)} {vs:List Value} {S:List Nat} (h:LRow w base v ls vs) (ht:Turned S w w') (hS:∀ g ∈ S,g < base):LRow w' base v ls vs:=
 h.turned ht (fun u hu g hg hm=>by
  have h1:=(h.lt u hu g hg).1
  have h2:=hS g hm
  omega)
theorem LRow.base {w:World} {b b':Nat} {v:Value} {ls:List (List Ent)} {vs:List Value} (h:LRow w b v ls vs) (hb:b' ≤ b):LRow w b' v ls vs:=
 ⟨own_base h.row hb,fun i es hi=>by
  obtain ⟨u,h1,h2⟩:=h.inn i es hi
  exact ⟨u,h1,ERow.base h2 hb⟩⟩
theorem infoL:(Tryz.prog.info? 44).map (fun i=>(i.zero,i.size,i.bytes)) = some (some (.agg #[.slice none 0 0]),1,24):=by kernel_rfl
theorem LRow.app {w:World} {base h:Nat} {v u:Value} {ls:List (List Ent)} {vs:List Value} {es:List Ent} (hr:LRow w base v ls vs) (hh:w.heap[h]? = some (.cells #[u] 44 (0,0))) (hu:ERow w base u es) (hn:ls.length ≤ 5864062014800) (hb:base ≤ w.heap.size) :
  ∃ g cap W2,(Builtin.append_ #[22,22] 22 #[v,.slice (some ⟨h,0,none⟩) 1 1]).run Tryz.prog w = .ok (.slice (some ⟨g,0,none⟩) (ls.length + 1) cap) W2 ∧ LRow W2 base (.slice (some ⟨g,0,none⟩) (ls.length + 1) cap) (ls ++ [es]) (vs ++ [u]) ∧ Turned v.ownBlock.toList w W2:=by
 obtain ⟨i0,hi,hz0,hz1,hz2⟩:=info_parts infoL
 obtain ⟨A,gu,cu,rfl,-⟩:=hu.slice
 obtain ⟨g,cap,w',h1,h2,h3,h4,_⟩:=run_append_lies (P:=Tryz.prog) (w:=w) 22 22 base 44 i0 _ 1 24 Tryz.underlying22 hi hz0 hz1 hz2 rfl (by decide) v ls.length _ hr.row ⟨h,0,none⟩ 1 1 [Value.slice A es.length cu] rfl
  (fun j u hu=>by rw [eadd0,blk_cell hh];simpa using hu) (fun u hu=>by rw [List.mem_singleton] at hu;subst hu;rfl) (by decide) (by unfold maxLen;omega) (by omega) hb _ rfl
 have ht:Turned v.ownBlock.toList w w':=⟨h3.os,h3.tape,h3.output,h3.size,fun b hb hn=>h3.block b hb (fun e=>hn (by simp [← e]))⟩
 have hne:∀ {x:Value} {fs:List Ent},ERow w base x fs → ∀ g ∈ x.ownBlock.toList,g ∉ v.ownBlock.toList:=fun hx g hg hm=>by
  obtain ⟨-,-,c1,k1⟩:=own_blk hx g hg
  obtain ⟨-,-,c2,k2⟩:=own_blk hr.row g hm
  rw [k1] at k2
  simp at k2
 refine ⟨g,cap,w',h1,⟨by rw [List.length_append];exact h2,fun i fs hi => ?_⟩,ht⟩
 have hl:=hr.len
 by_cases hil:i < ls.length
 ·rw [List.getElem?_append_left hil] at hi
  obtain ⟨x,k1,k2⟩:=hr.inn i fs hi
  exact ⟨x,by rw [List.getElem?_append_left (by omega)];exact k1,k2.turned ht (hne k2)⟩
 ·rw [List.getElem?_append_right (by omega)] at hi
  have hi0:i = ls.length:=by
   have:=(List.getElem?_eq_some_iff.1 hi).1
   simp at this
   omega
  subst hi0
  simp at hi
  subst hi
  exact ⟨_,by rw [List.getElem?_append_right (by omega),hl];simp,hu.turned ht (hne hu)⟩
def GIm:List (List Ent) → World → Nat → Value → Prop:=fun ls w b v=>∃ vs,LRow w b v ls vs
theorem LRow.slice {w:World} {base:Nat} {v:Value} {ls:List (List Ent)} {vs:List Value} (h:LRow w base v ls vs):∃ (A:Option Addr) (g c:Nat),v = .slice A ls.length c ∧ ls.length ≤ c ∧ c ≤ 9223372036854775807 ∧ (ls ≠ [] → A = some ⟨g,0,none⟩ ∧ base ≤ g ∧ g < w.heap.size) ∧ ∀ i u,vs[i]? = some u → w.cell? ⟨g,i,none⟩ = some u:=by
 have hcl := @World.ownsRow.cells _ _ _ _ _ _ _ h.row
 have hlen:=h.len
 obtain ⟨hl,⟨hv,h0⟩ | ⟨g,c,cur,hv,h2,h3,h4,h5,_⟩⟩:=h.row
 ·have he:ls = []:=List.length_eq_zero_iff.1 h0
  subst he
  exact ⟨none,0,0,hv,Nat.le_refl _,by omega,fun h=>absurd rfl h,fun i u hu=>by
   have:vs = []:=List.length_eq_zero_iff.1 hlen
   rw [this] at hu;simp at hu⟩
 ·refine ⟨_,g,c,hv,h4,by unfold maxLen at h5;omega,fun _=>⟨rfl,h2,blk_lt h3⟩,fun i u hu => ?_⟩
  have hg:v.ownBlock = some g:=by rw [hv];rfl
  have:=hcl hg _ _ hu
  rw [eadd0] at this
  exact this
theorem GIm.keeps:Keeps GIm:=⟨fun ⟨vs,h⟩=>by obtain ⟨A,g,c,hv,-⟩:=h.slice;exact ⟨A,_,c,hv⟩,fun ⟨vs,h⟩ ht hS=>⟨vs,h.low ht hS⟩,fun ⟨vs,h⟩ hb=>⟨vs,h.base hb⟩⟩
structure DI (w:World) (q f mn kn:Nat) (s:Nm) (a:Nat) (ls:List (List Ent)) (F:Fld) (v:Value) (vs:List Value) (W:World):Prop where
 rd:W.heap[q]? = some (RdO s a)
 ib:W.heap[w.heap.size]? = some (.cells #[v] 24 (0,0))
 row:LRow W (w.heap.size + 1) v ls vs
 fld:FldP W f mn kn F
 tur:Turned [q] w W
 ql:q < w.heap.size
 lf:w.heap.size + 1 ≤ f
 lm:w.heap.size + 1 ≤ mn
 lk:w.heap.size + 1 ≤ kn
 al:a ≤ s.length
def imH (q mn kn b2:Nat) (v:Value) (j:Nat):List Nat:=if j = 4 then [q,mn,kn] else if j = 6 then v.ownBlock.toList else if j = 8 then [b2] else []
theorem imH_mem {q mn kn b2:Nat} {v:Value} {j b:Nat} (h:b ∈ imH q mn kn b2 v j):(j = 4 ∧ (b = q ∨ b = mn ∨ b = kn)) ∨ (j = 6 ∧ b ∈ v.ownBlock.toList) ∨ (j = 8 ∧ b = b2):=by
 unfold imH at h
 split at h
 ·exact .inl ⟨by assumption,by simpa using h⟩
 ·split at h
  ·exact .inr (.inl ⟨by assumption,h⟩)
  ·split at h
   ·exact .inr (.inr ⟨by assumption,by simpa using h⟩)
   ·simp at h
theorem imH_sub {q mn kn b2:Nat} {v:Value} {j b:Nat} (h:b ∈ imH q mn kn b2 v j):b ∈ q :: mn :: kn :: b2 :: v.ownBlock.toList:=by
 rcases imH_mem h with ⟨_,rfl | rfl | rfl⟩ | ⟨_,hb⟩ | ⟨_,rfl⟩
 ·simp
 ·simp
 ·simp
 ·simp [hb]
 ·simp
theorem DI.far {w W:World} {q f mn kn a:Nat} {s:Nm} {ls:List (List Ent)} {F:Fld} {v:Value} {vs:List Value} (h:DI w q f mn kn s a ls F v vs W):∀ u ∈ v :: vs,∀ g ∈ u.ownBlock.toList,w.heap.size + 1 ≤ g ∧ g < W.heap.size ∧ g ≠ f ∧ g ≠ mn ∧ g ≠ kn:=by
 intro u hu g hg
 obtain ⟨h1,h2,cur,T,h3,h4⟩:=h.row.lt u hu g hg
 refine ⟨h1,h2,fun e => ?_,fun e => ?_,fun e => ?_⟩
 ·have:=h.fld.blk
  rw [← e,h3] at this
  rcases h4 with rfl | rfl <;> simp at this
 ·obtain ⟨es,c,k1,-⟩:=h.fld.nodes
  rw [← e,h3] at k1
  cases k1
 ·obtain ⟨es,c,k1,-⟩:=h.fld.kids
  rw [← e,h3] at k1
  cases k1
theorem DI.tur2 {w W W':World} {q f mn kn a:Nat} {s:Nm} {ls:List (List Ent)} {F:Fld} {v:Value} {vs:List Value} (h:DI w q f mn kn s a ls F v vs W) (ht:Turned (q :: mn :: kn :: w.heap.size :: v.ownBlock.toList) W W'):Turned [q] w W':=
 tur_new h.tur ht (fun x hx=>by
  have h1:=h.lm
  have h2:=h.lk
  simp only [List.mem_cons] at hx
  rcases hx with rfl | rfl | rfl | rfl | hx
  ·exact .inl (by simp)
  ·exact .inr (by omega)
  ·exact .inr (by omega)
  ·exact .inr (by omega)
  ·exact .inr (by have:=(h.far v (List.mem_cons_self ..) x hx).1;omega))
theorem DI.turn {w W W':World} {q f mn kn a a':Nat} {s:Nm} {ls:List (List Ent)} {F:Fld} {v:Value} {vs:List Value} (h:DI w q f mn kn s a ls F v vs W) (hq:W'.heap[q]? = some (RdO s a')) (ht:Turned [q] W W') (ha:a' ≤ s.length):DI w q f mn kn s a' ls F v vs W':=by
 have h0:=h.ql
 have h1:=h.lf
 have h2:=h.lm
 have h3:=h.lk
 exact ⟨hq,ht.kept h.ib (by simp;omega),h.row.low ht (fun g hg=>by simp at hg;omega),h.fld.turned ht (by simp;omega) (by simp;omega) (by simp;omega),h.tur.trans ht,h0,h1,h2,h3,ha⟩
end Go.Proofs.YtifhnpkapgaboaaGreat.arch
