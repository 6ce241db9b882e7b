/-
  Proved: what an api.Image that comes in holds, and how large it is. Conditions: as each theorem says.
  Proved: how large an api.Image is whose values and letters are together at most 1048576. Conditions: as each theorem says.
-/
import Derived.Test.YtifhnpkapgaboaaGreatPi41
import Derived.SizedLaws
set_option linter.unusedVariables false
set_option linter.unusedSimpArgs false
namespace Go.Proofs.YtifhnpkapgaboaaGreat.arch
open Go.RowKit Go.ChangeShapes Go.WideShapes Go.Deep
set_option maxRecDepth 100000
def EsW {H:Type} (es:List Ent) (y:DataW H):Prop:=(es = [] ∧ y = .nil) ∨ ∃ sp,y = .slice (es.map entW) sp
theorem layers_open {H:Type} {enc:TypeId × Value → H} {w:World} {base:Nat} {spare:Nat → Bool} {held:Bool} {fuel:Nat} {v:Value} {x:DataW H × List MemPlace}
  (h:DataW.trod enc Tryz.prog w base spare held fuel 22 [v] = some x) :
  ∃ (A:Option Addr) (ls:List (List Ent)) (c:Nat),v = .slice A ls.length c ∧ LIn w A c ls ∧ c ≤ maxLen ∧ ((ls = [] ∧ x.1 = .nil) ∨ ∃ xs sp,x.1 = .slice xs sp ∧ xs.length = ls.length ∧ ∀ (i:Nat) (es:List Ent),ls[i]? = some es → ∃ y,xs[i]? = some (.agg [y]) ∧ EsW es y):=by
 rcases open_slice Tryz.underlying22 h with ⟨h0,hx⟩ | ⟨A,l,c,m,n,D,Pl,hcs,hb,hl,hm,hmm,hx,hi⟩
 ·simp at h0
  exact ⟨none,[],0,h0,⟨Nat.le_refl _,.inl rfl⟩,Nat.zero_le _,.inl ⟨rfl,by rw [hx]⟩⟩
 ·simp at hcs
  have hml:l ≤ m:=by rw [hmm];split <;> omega
  have hC:Tryz.prog.cellsOf 44 = 1:=by kernel_rfl
  have hS:Tryz.prog.cellsOf 41 = 1:=by kernel_rfl
  rw [hC] at hi
  have key:∀ i,∃ (es:List Ent),i < l → ∃ Ai ci y,w.cell? ((A.add (i * 1)).add 0) = some (.slice Ai es.length ci) ∧ EIn w Ai ci es ∧ ci ≤ maxLen ∧ D i = .agg [y] ∧ EsW es y:=by
   intro i
   by_cases hil:i < l
   ·obtain ⟨cs,hc,ht⟩:=hi i (by omega)
    obtain ⟨_,hlen,hat⟩:=World.cells?_some hc
    obtain ⟨y0,k,hx,-,h0⟩:=trod_struct1 Tryz.underlying44 ht
    obtain ⟨c0,rfl⟩:∃ c0,cs = [c0]:=List.length_eq_one_iff.1 hlen
    simp only [Prod.mk.injEq] at hx
    simp [hS] at h0
    obtain ⟨Ai,es,ci,rfl,h1,h2,h3⟩:=entries_open h0
    exact ⟨es,fun _=>⟨Ai,ci,y0.1,hat 0 (by omega),h1,h2,hx.1,h3⟩⟩
   ·exact ⟨[],fun h=>absurd h hil⟩
  obtain ⟨ex,hst⟩:=Classical.axiomOfChoice key
  have hlen:((List.range l).map ex).length = l:=by simp
  have hget:∀ (i:Nat) (es:List Ent),((List.range l).map ex)[i]? = some es → i < l ∧ ex i = es:=fun i es he=>by
   have hil:i < l:=by
    have:=(List.getElem?_eq_some_iff.1 he).1
    rwa [hlen] at this
   rw [List.getElem?_map,List.getElem?_range hil] at he
   exact ⟨hil,by simpa using he⟩
  refine ⟨some A,(List.range l).map ex,c,by rw [hlen];exact hcs,⟨by rw [hlen];exact hl,?_⟩,hm,.inr ⟨(List.range l).map D,_,by rw [hx],by simp,fun i es he => ?_⟩⟩
  ·by_cases hl0:l = 0
   ·left;subst hl0;rfl
   ·right
    obtain ⟨b,off,spot⟩:=A
    have hspot:spot = none:=by
     obtain ⟨Ai,ci,y,h1,-⟩:=hst 0 (by omega)
     simpa [Addr.add] using World.cell?_spot h1
    subst hspot
    refine ⟨b,off,rfl,fun i es he => ?_⟩
    obtain ⟨hil,rfl⟩:=hget i es he
    obtain ⟨Ai,ci,y,h1,h2,h3,-⟩:=hst i hil
    rw [add4 _ _ _ rfl] at h1
    exact ⟨Ai,ci,by simpa using h1,h2,by unfold maxLen at h3;omega⟩
  ·obtain ⟨hil,rfl⟩:=hget i es he
   obtain ⟨Ai,ci,y,h1,h2,h3,h4,h5⟩:=hst i hil
   exact ⟨y,by rw [List.getElem?_map,List.getElem?_range hil];simp [h4],h5⟩
theorem image_open {H:Type} {enc:TypeId × Value → H} {w:World} {base:Nat} {spare:Nat → Bool} {held:Bool} {r:Reach} {b0:Nat} {v:Value} {d:DataW H} {p:List MemPlace}
  (hv:Value.okWide Tryz.prog w r b0 24 v) (h:DataW.Trod enc Tryz.prog w base spare held 24 v d p) :
  ∃ (A:Option Addr) (ls:List (List Ent)) (c:Nat) (x:DataW H),v = .agg #[.slice A ls.length c] ∧ d = .agg [x] ∧ LIn w A c ls ∧ c ≤ maxLen ∧ ((ls = [] ∧ x = .nil) ∨ ∃ xs sp,x = .slice xs sp ∧ xs.length = ls.length ∧ ∀ (i:Nat) (es:List Ent),ls[i]? = some es → ∃ y,xs[i]? = some (.agg [y]) ∧ EsW es y):=by
 have hC:Tryz.prog.cellsOf 24 = 1:=by kernel_rfl
 have hS:Tryz.prog.cellsOf 22 = 1:=by kernel_rfl
 obtain ⟨cs,rfl,hsz⟩:=okWide_struct Tryz.underlying24 hv
 rw [hC] at hsz
 obtain ⟨c0,rfl⟩:∃ c0,cs = #[c0]:=Array.size_eq_one_iff.1 hsz
 obtain ⟨fuel,hf⟩:=h
 obtain ⟨y0,n,hx,-,h0⟩:=trod_struct1 Tryz.underlying24 hf
 simp only [Prod.mk.injEq] at hx
 simp [Value.cells,hS] at h0
 obtain ⟨A,ls,c,rfl,h1,h2,h3⟩:=layers_open h0
 exact ⟨A,ls,c,y0.1,rfl,hx.1,h1,h2,h3⟩
theorem bulk_mem {H:Type}:∀ {ds:List (DataW H)} {d:DataW H},d ∈ ds → Rows.uptoBulk d ≤ Rows.uptoBulkAll ds
 | x :: r,d,hd=>by
  simp only [Rows.uptoBulkAll]
  rcases List.mem_cons.1 hd with rfl | hd
  ·omega
  ·have:=bulk_mem hd;omega
theorem bulk_pos {H:Type} (d:DataW H):1 ≤ Rows.uptoBulk d:=by
 cases d with
 | lit x=>cases x <;> simp [Rows.uptoBulk]
 | nil=>simp [Rows.uptoBulk]
 | ptr d=>simp [Rows.uptoBulk]
 | slice a b=>simp [Rows.uptoBulk]
 | agg a=>simp [Rows.uptoBulk]
 | iface a b=>simp [Rows.uptoBulk]
 | map a=>simp [Rows.uptoBulk]
 | held a=>simp [Rows.uptoBulk]
theorem bulk_len {H:Type}:∀ (ds:List (DataW H)),ds.length ≤ Rows.uptoBulkAll ds
 | []=>Nat.zero_le _
 | x :: r=>by
  have h1:=bulk_len r
  have h2:=bulk_pos x
  simp only [Rows.uptoBulkAll,List.length_cons]
  omega
theorem ents_small {H:Type} {es:List Ent} {y:DataW H} (h:EsW es y) (hb:Rows.uptoBulk y ≤ 1048576):es.length ≤ 1048576 ∧ ∀ e ∈ es,small e:=by
 rcases h with ⟨rfl,-⟩ | ⟨sp,rfl⟩
 ·exact ⟨Nat.zero_le _,fun e he=>by cases he⟩
 ·simp only [Rows.uptoBulk] at hb
  obtain ⟨h1,h2⟩:=bulk_ents (H:=H) es
  exact ⟨by omega,fun e he=>by have:=h2 e he;exact ⟨by omega,by omega⟩⟩
theorem image_small {H:Type} {ls:List (List Ent)} {x:DataW H} (h:(ls = [] ∧ x = .nil) ∨ ∃ xs sp,x = .slice xs sp ∧ xs.length = ls.length ∧ ∀ (i:Nat) (es:List Ent),ls[i]? = some es → ∃ y,xs[i]? = some (.agg [y]) ∧ EsW es y)
  (hk:Rows.uptoSmall H [.agg [x]] = true):ls.length ≤ 1048576 ∧ (∀ es ∈ ls,es.length ≤ 1048576) ∧ ∀ es ∈ ls,∀ e ∈ es,small e:=by
 have hb:Rows.uptoBulkAll [DataW.agg (H:=H) [x]] ≤ 1048576:=of_decide_eq_true hk
 rcases h with ⟨rfl,-⟩ | ⟨xs,sp,rfl,hlen,hall⟩
 ·exact ⟨Nat.zero_le _,(fun x hx=>by cases hx),(fun x hx=>by cases hx)⟩
 ·simp only [Rows.uptoBulkAll,Rows.uptoBulk] at hb
  have hl:=bulk_len xs
  have key:∀ es ∈ ls,es.length ≤ 1048576 ∧ ∀ x ∈ es,small x:=fun es hes=>by
   obtain ⟨i,hi⟩:=List.mem_iff_getElem?.1 hes
   obtain ⟨y,hy,hE⟩:=hall i es hi
   have:=bulk_mem (List.mem_of_getElem? hy)
   simp only [Rows.uptoBulkAll,Rows.uptoBulk] at this
   exact ents_small hE (by omega)
  exact ⟨by omega,fun es hes=>(key es hes).1,fun es hes=>(key es hes).2⟩
end Go.Proofs.YtifhnpkapgaboaaGreat.arch
