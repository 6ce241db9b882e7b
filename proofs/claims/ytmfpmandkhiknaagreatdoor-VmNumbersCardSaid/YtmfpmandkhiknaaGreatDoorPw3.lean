/-
  Proved: small facts on worlds that differ in named blocks alone, and on blocks that are known whole. Conditions: as each theorem says. No program is in sight.
-/
import Derived.WalkKit
import Derived.WalkLawsBesides
set_option linter.unusedVariables false
set_option linter.unusedSimpArgs false
namespace Go.Proofs.YtmfpmandkhiknaaGreatDoor.heap
open Go.RowKit
structure Turned (S:List Nat) (w w':World):Prop where
 os:w'.os = w.os
 tape:w'.tape = w.tape
 output:w'.output = w.output
 size:w.heap.size ≤ w'.heap.size
 block:∀ k,k < w.heap.size → k ∉ S → w'.heap[k]? = w.heap[k]?
theorem Turned.refl (S:List Nat) (w:World):Turned S w w:=⟨rfl,rfl,rfl,Nat.le_refl _,fun _ _ _=>rfl⟩
theorem Turned.trans {S:List Nat} {a b c:World} (h:Turned S a b) (k:Turned S b c):Turned S a c:=
 ⟨k.os.trans h.os,k.tape.trans h.tape,k.output.trans h.output,Nat.le_trans h.size k.size,fun i hi hn=>(k.block i (Nat.lt_of_lt_of_le hi h.size) hn).trans (h.block i hi hn)⟩
theorem Turned.setCell {S:List Nat} {a w:World} (h:Turned S a w) {p:Addr} (hp:p.block ∈ S) (u:Value):Turned S a (w.setCell p u):=
 h.trans ⟨rfl,rfl,rfl,by simp [World.setCell],fun k _ hn=>Below.heap_setCell _ _ _ _ (fun e=>hn (e ▸ hp))⟩
theorem Turned.alloc {S:List Nat} {a w:World} (h:Turned S a w) (o:Obj):Turned S a (w.alloc o):=
 h.trans ⟨rfl,rfl,rfl,by simp,fun k hk _=>Below.heap_alloc _ _ _ hk⟩
theorem Turned.drew {S:List Nat} {a w:World} (h:Turned S a w):Turned S a w.drew:=⟨h.os,h.tape,h.output,h.size,h.block⟩
theorem Turned.of_below {S:List Nat} {w w':World} (h:Below w.heap.size w w'):Turned S w w':=⟨h.os,h.tape,h.output,h.size,fun k hk _=>h.block k hk⟩
theorem Turned.below {S:List Nat} {w w':World} {B:Nat} (h:Turned S w w') (hB:B ≤ w.heap.size) (hS:∀ k ∈ S,B ≤ k):Below B w w':=
 ⟨h.os,h.tape,h.output,h.size,fun k hk=>h.block k (Nat.lt_of_lt_of_le hk hB) (fun hm=>by have:=hS k hm;omega)⟩
theorem Turned.mono {S S':List Nat} {w w':World} (h:Turned S w w') (hS:∀ k ∈ S,k ∈ S'):Turned S' w w':=
 ⟨h.os,h.tape,h.output,h.size,fun k hk hn=>h.block k hk (fun hm=>hn (hS k hm))⟩
theorem Turned.kept {S:List Nat} {w w':World} (h:Turned S w w') {b:Nat} {o:Obj} (hb:w.heap[b]? = some o) (hn:b ∉ S):w'.heap[b]? = some o:=by
 rw [h.block b (Array.getElem?_eq_some_iff.1 hb).1 hn,hb]
theorem Turned.cell {S:List Nat} {w w':World} (h:Turned S w w') {a:Addr} {v:Value} (hc:w.cell? a = some v) (hn:a.block ∉ S):w'.cell? a = some v:=by
 rw [World.cell?_of_block (w:=w) (h.block a.block (World.block_lt_of_cell? w a hc) hn),hc]
theorem blk_lt {w:World} {b:Nat} {o:Obj} (h:w.heap[b]? = some o):b < w.heap.size:=(Array.getElem?_eq_some_iff.1 h).1
theorem blk_cell {w:World} {b:Nat} {cs:Array Value} {t:TypeId} {fr:Nat × Nat} (h:w.heap[b]? = some (.cells cs t fr)) (i:Nat):w.cell? ⟨b,i,none⟩ = cs[i]?:=by simp [World.cell?,h]
theorem blk_free {w:World} {b:Nat} {cs:Array Value} {t:TypeId} (h:w.heap[b]? = some (.cells cs t (0,0))) (i:Nat):w.frozen? ⟨b,i,none⟩ = false:=by simp [World.frozen?,h]
theorem blk_set {w:World} {b:Nat} {cs:Array Value} {t:TypeId} {fr:Nat × Nat} (h:w.heap[b]? = some (.cells cs t fr)) (i:Nat) (v:Value) :
  (w.setCell ⟨b,i,none⟩ v).heap[b]? = some (.cells (cs.setIfInBounds i v) t fr):=by
 simp [World.setCell,Array.getElem?_modify,h]
theorem blk_other {w:World} {b k:Nat} (h:b ≠ k) (i:Nat) (v:Value):(w.setCell ⟨k,i,none⟩ v).heap[b]? = w.heap[b]?:=Below.heap_setCell _ _ _ _ h
theorem blk_new (w:World) (o:Obj):(w.alloc o).heap[w.heap.size]? = some o:=heap_alloc_new w o
theorem blk_old {w:World} {b:Nat} {o:Obj} (h:w.heap[b]? = some o) (o':Obj):(w.alloc o').heap[b]? = some o:=by rw [Below.heap_alloc _ _ _ (blk_lt h),h]
theorem blk_below {w w':World} {b:Nat} {o:Obj} (h:w.heap[b]? = some o) (hb:Below w.heap.size w w'):w'.heap[b]? = some o:=by rw [hb.block b (blk_lt h),h]
end Go.Proofs.YtmfpmandkhiknaaGreatDoor.heap
