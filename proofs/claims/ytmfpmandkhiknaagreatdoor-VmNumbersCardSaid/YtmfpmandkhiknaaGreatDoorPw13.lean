/-
  Proved: the machine's block in memory; a value goes on the stack. Conditions: as each theorem says.
  Proved: where a row lies behind an append. Conditions: as each theorem says.
-/
import Derived.Test.YtmfpmandkhiknaaGreatDoorPw12
set_option linter.unusedVariables false
set_option linter.unusedSimpArgs false
namespace Go.Proofs.YtmfpmandkhiknaaGreatDoor.vmm
open Go Go.RowKit Ieee
open flt heap
open lex (run_store_float add0)
set_option maxRecDepth 100000
attribute [local go_sem] run_store_float
abbrev Is:=List (Ins × Nat)
def iC (x:Ins × Nat):List Value := [.int .i64 x.1.op,.int .i64 x.1.arg,.float .f64 x.2,.string ⟨x.1.text.toArray⟩]
def iCs (C:Is):List Value:=C.flatMap iC
theorem iCs_len (C:Is):(iCs C).length = C.length * 4:=by
 induction C with
 | nil=>rfl
 | cons x C ih =>
  have e:iCs (x :: C) = iC x ++ iCs C:=rfl
  rw [e,List.length_append,ih,List.length_cons]
  show 4 + C.length * 4 = _
  omega
theorem iCs_get:∀ (C:Is) (j:Nat) (x:Ins × Nat),C[j]? = some x → (iCs C)[j * 4]? = some (.int .i64 x.1.op) ∧ (iCs C)[j * 4 + 1]? = some (.int .i64 x.1.arg) ∧ (iCs C)[j * 4 + 2]? = some (.float .f64 x.2) ∧ (iCs C)[j * 4 + 3]? = some (.string ⟨x.1.text.toArray⟩)
 | [],j,x,h=>by simp at h
 | y :: C,0,x,h=>by
  simp at h
  subst h
  exact ⟨rfl,rfl,rfl,rfl⟩
 | y :: C,j + 1,x,h=>by
  have ih:=iCs_get C j x (by simpa using h)
  have e:iCs (y :: C) = iC y ++ iCs C:=rfl
  have l4:(iC y).length = 4:=rfl
  rw [e,List.getElem?_append_right (by rw [l4];omega),List.getElem?_append_right (by rw [l4];omega),List.getElem?_append_right (by rw [l4];omega),List.getElem?_append_right (by rw [l4];omega),l4]
  rw [show (j + 1) * 4 - 4 = j * 4 by omega,show (j + 1) * 4 + 1 - 4 = j * 4 + 1 by omega,show (j + 1) * 4 + 2 - 4 = j * 4 + 2 by omega,show (j + 1) * 4 + 3 - 4 = j * 4 + 3 by omega]
  exact ih
def IRow (w:World) (v:Value) (C:Is):Prop:=w.ownsRow 0 54 4 v C.length (iCs C)
def IsOk (C:Is):Prop:=∀ x ∈ C,NumOk (numV x.1.num) x.2
def mRow (m:Mac) (cv sv:Value) (V:Vs):List Value:=cv :: .int .i64 m.pc :: .int .i64 m.fuel :: .int .i64 m.ran :: sv :: (vCs V ++ (.int .i64 m.state :: .int .i64 m.call.op :: .string ⟨m.call.path.toArray⟩ :: .string ⟨m.call.path2.toArray⟩ :: .int .i64 m.call.fd :: .int .i64 m.call.off :: .int .i64 m.call.num :: .int .i64 m.call.mode :: .string ⟨m.call.data.toArray⟩ :: .string ⟨m.asked.toArray⟩ :: .int .i64 m.errno :: .string ⟨m.text.toArray⟩ :: []))
structure MA (w:World) (p:Nat) (m:Mac) (cv sv:Value) (V L:Vs) (C:Is):Prop where
 obj:w.heap[p]? = some (.cells (mRow m cv sv V).toArray 79 (0,0))
 v64:V.length = 64
 vars:V.map (·.1) = m.vars
 vok:VsOk V
 lok:VsOk L
 row:VRow w 0 sv L
 few:L.length ≤ 64
 ins:IRow w cv C
 code:C.map (·.1) = m.code
 iok:IsOk C
def Next (p:Nat) (sv:Value) (w:World) (sv':Value) (w':World):Prop:=Turned (p :: sv.ownBlock.toList) w w' ∧ ∀ x ∈ sv'.ownBlock.toList,x ∈ sv.ownBlock.toList ∨ w.heap.size ≤ x
theorem Next.refl (p:Nat) (sv:Value) (w:World):Next p sv w sv w:=⟨Turned.refl _ _,fun x hx=>.inl hx⟩
theorem Next.trans {p:Nat} {s0 s1 s2:Value} {w0 w1 w2:World} (h:Next p s0 w0 s1 w1) (k:Next p s1 w1 s2 w2):Next p s0 w0 s2 w2:=by
 refine ⟨⟨k.1.os.trans h.1.os,k.1.tape.trans h.1.tape,k.1.output.trans h.1.output,Nat.le_trans h.1.size k.1.size,fun b hb hn => ?_⟩,fun x hx => ?_⟩
 ·rw [k.1.block b (Nat.lt_of_lt_of_le hb h.1.size) ?_,h.1.block b hb hn]
  intro hm
  rcases List.mem_cons.1 hm with e | e
  ·exact hn (List.mem_cons.2 (.inl e))
  ·rcases h.2 b e with e1 | e1
   ·exact hn (List.mem_cons.2 (.inr e1))
   ·omega
 ·rcases k.2 x hx with e | e
  ·exact h.2 x e
  ·exact .inr (Nat.le_trans h.1.size e)
theorem MA.ne_row {w:World} {p:Nat} {m:Mac} {cv sv:Value} {V L:Vs} {C:Is} (h:MA w p m cv sv V L C):p ∉ sv.ownBlock.toList:=by
 intro hm
 obtain ⟨_,⟨hv,_⟩ | ⟨g,c,cur,rfl,h2,h3,_⟩⟩:=h.row
 ·rw [hv] at hm;simp [Value.ownBlock] at hm
 ·have hg:p = g:=by simpa [Value.ownBlock] using hm
  subst hg
  rw [h.obj] at h3
  simp at h3
theorem MA.ne_ins {w:World} {p:Nat} {m:Mac} {cv sv:Value} {V L:Vs} {C:Is} (h:MA w p m cv sv V L C):∀ g ∈ cv.ownBlock.toList,g < w.heap.size ∧ g ≠ p ∧ g ∉ sv.ownBlock.toList:=by
 intro q hq
 obtain ⟨_,⟨hv,_⟩ | ⟨g,c,cur,rfl,h2,h3,_⟩⟩:=h.ins
 ·rw [hv] at hq;simp [Value.ownBlock] at hq
 ·have hg:q = g:=by simpa [Value.ownBlock] using hq
  subst hg
  refine ⟨blk_lt h3,fun e => ?_,fun hm => ?_⟩
  ·subst e
   rw [h.obj] at h3
   simp at h3
  ·obtain ⟨_,⟨hv,_⟩ | ⟨g2,c2,cur2,rfl,h4,h5,_⟩⟩:=h.row
   ·rw [hv] at hm;simp [Value.ownBlock] at hm
   ·have hg2:q = g2:=by simpa [Value.ownBlock] using hm
    subst hg2
    rw [h3] at h5
    simp at h5
theorem IRow.kept {w w':World} {v:Value} {C:Is} (h:IRow w v C) (hk:∀ g o,v.ownBlock = some g → w.heap[g]? = some o → w'.heap[g]? = some o):IRow w' v C:=by
 obtain ⟨hl,h1 | ⟨g,c,cur,rfl,h2,h3,h4⟩⟩:=h
 ·exact ⟨hl,.inl h1⟩
 ·exact ⟨hl,.inr ⟨g,c,cur,rfl,h2,hk g _ rfl h3,h4⟩⟩
theorem MA.below {w w':World} {p:Nat} {m:Mac} {cv sv:Value} {V L:Vs} {C:Is} (h:MA w p m cv sv V L C) (hb:Below w.heap.size w w'):MA w' p m cv sv V L C:=
 ⟨blk_below h.obj hb,h.v64,h.vars,h.vok,h.lok,h.row.below hb,h.few,h.ins.kept (fun g o hg ho=>blk_below ho hb),h.code,h.iok⟩
theorem MA.drew {w:World} {p:Nat} {m:Mac} {cv sv:Value} {V L:Vs} {C:Is} (h:MA w p m cv sv V L C):MA w.drew p m cv sv V L C:=
 ⟨h.obj,h.v64,h.vars,h.vok,h.lok,h.row,h.few,h.ins,h.code,h.iok⟩
theorem MA.write {w w':World} {p:Nat} {m m':Mac} {cv sv sv':Value} {V V' L L':Vs} {C:Is} (h:MA w p m cv sv V L C) (ht:Turned (p :: sv.ownBlock.toList) w w') (ho:w'.heap[p]? = some (.cells (mRow m' cv sv' V').toArray 79 (0,0))) (h64:V'.length = 64) (hv:V'.map (·.1) = m'.vars) (hvo:VsOk V') (hlo:VsOk L') (hr:VRow w' 0 sv' L') (hf:L'.length ≤ 64) (hc:m'.code = m.code):MA w' p m' cv sv' V' L' C:=
 ⟨ho,h64,hv,hvo,hlo,hr,hf,h.ins.kept (fun g o hg hb=>ht.kept hb (by
  have:=h.ne_ins g (by rw [hg];exact List.mem_singleton.2 rfl)
  intro hm
  rcases List.mem_cons.1 hm with e | e
  ·exact this.2.1 e
  ·exact this.2.2 e)),by rw [hc];exact h.code,h.iok⟩
/-! its cells -/
theorem row_get {m:Mac} {cv sv:Value} {V:Vs} (h:V.length = 64) (k:Nat):(mRow m cv sv V)[k + 197]? = (.int .i64 m.state :: .int .i64 m.call.op :: .string ⟨m.call.path.toArray⟩ :: .string ⟨m.call.path2.toArray⟩ :: .int .i64 m.call.fd :: .int .i64 m.call.off :: .int .i64 m.call.num :: .int .i64 m.call.mode :: .string ⟨m.call.data.toArray⟩ :: .string ⟨m.asked.toArray⟩ :: .int .i64 m.errno :: .string ⟨m.text.toArray⟩ :: ([]:List Value))[k]?:=by
 have hl:=vCs_len V
 rw [h] at hl
 unfold mRow
 rw [show k + 197 = (k + 192) + 1 + 1 + 1 + 1 + 1 by omega]
 simp only [List.getElem?_cons_succ]
 rw [List.getElem?_append_right (by omega),hl]
 congr 1
theorem row_var {m:Mac} {cv sv:Value} {V:Vs} (h:V.length = 64) (k:Nat) (hk:k < 192):(mRow m cv sv V)[k + 5]? = (vCs V)[k]?:=by
 have hl:=vCs_len V
 rw [h] at hl
 unfold mRow
 rw [show k + 5 = k + 1 + 1 + 1 + 1 + 1 by omega]
 simp only [List.getElem?_cons_succ]
 rw [List.getElem?_append_left (by omega)]
theorem MA.cell {w:World} {p:Nat} {m:Mac} {cv sv:Value} {V L:Vs} {C:Is} (h:MA w p m cv sv V L C) (k:Nat):w.cell? ⟨p,k,none⟩ = (mRow m cv sv V)[k]?:=by rw [blk_cell h.obj,List.getElem?_toArray]
theorem MA.free {w:World} {p:Nat} {m:Mac} {cv sv:Value} {V L:Vs} {C:Is} (h:MA w p m cv sv V L C) (k:Nat):w.frozen? ⟨p,k,none⟩ = false:=blk_free h.obj k
theorem MA.stack {w:World} {p:Nat} {m:Mac} {cv sv:Value} {V L:Vs} {C:Is} (h:MA w p m cv sv V L C):w.cell? ⟨p,4,none⟩ = some sv:=h.cell 4
theorem set_stack (m:Mac) (cv sv u:Value) (V:Vs):(mRow m cv sv V).toArray.setIfInBounds 4 u = (mRow m cv u V).toArray:=by
 rw [List.setIfInBounds_toArray]
 rfl
end Go.Proofs.YtmfpmandkhiknaaGreatDoor.vmm
namespace Go.Proofs.YtmfpmandkhiknaaGreatDoor.vmm
open Go Go.RowKit Ieee
open flt heap
open lex (add0)
set_option maxRecDepth 100000
theorem app_own (B:Nat) (v:Value) (L M:Vs) (a:Addr) (c:Nat) (w:World) (h:VRow w B v L) (hg:∀ j u,(vCs M)[j]? = some u → w.cell? (a.add j) = some u) (hB:B ≤ w.heap.size) (hn:L.length ≤ 100000) (hm:M.length ≤ 100000) :
  ∃ v2 w2,(Builtin.append_ #[43,43] 43 #[v,.slice (some a) M.length c]).run Tryz.prog w = .ok v2 w2 ∧ VRow w2 B v2 (L ++ M) ∧ Turned v.ownBlock.toList w w2 ∧ ∀ x ∈ v2.ownBlock.toList,x ∈ v.ownBlock.toList ∨ w.heap.size ≤ x:=by
 obtain ⟨v2,w2,hrun,h2,h3⟩:=app_vals B v L M a c w h hg hB hn hm
 refine ⟨v2,w2,hrun,h2,h3,?_⟩
 have hown:=h
 unfold VRow at hown
 rcases hown.2 with ⟨rfl,h0⟩ | ⟨g,cap,cur,rfl,hbg,hgo,hnc,hcm,hcs,htake⟩
 ·have hl0:L = []:=List.length_eq_zero_iff.1 h0
  subst hl0
  obtain ⟨v3,w3,hrun3,h23,-⟩:=app_vals w.heap.size (.slice none 0 0) [] M a c w (VRow.nil _ _) hg (Nat.le_refl _) (by simp) hm
  rw [hrun] at hrun3
  simp only [Result.ok.injEq] at hrun3
  obtain ⟨rfl,rfl⟩:=hrun3
  intro x hx
  exact .inr (h23.own_lt x hx).1
 ·obtain ⟨i0,hi,hz0,hz1,hz2⟩:=info_parts infoV
  have hlM:(vCs M).length = M.length * i0.size:=by rw [hz1];exact vCs_len M
  by_cases hroom:L.length + M.length ≤ cap
  ·have hr:=run_append_room (P:=Tryz.prog) w 43 43 47 i0 Tryz.underlying43 hi g L.length cap cur hgo a M.length c (vCs M) hlM hg (vC_one M) hroom (by rw [hlM,hcs,hz1,← Nat.add_mul];exact Nat.mul_le_mul_right _ hroom)
   rw [hrun] at hr
   simp only [Result.ok.injEq] at hr
   obtain ⟨rfl,-⟩:=hr
   intro x hx
   exact .inl hx
  ·have holds:∀ j u,(vCs L)[j]? = some u → w.cell? ((⟨g,0,none⟩:Addr).add j) = some u:=World.ownsRow.cells hown (g:=g) rfl
   have hr:=run_append_grow (P:=Tryz.prog) w 43 43 47 i0 _ Tryz.underlying43 hi hz0 ⟨g,0,none⟩ L.length cap (vCs L) (by rw [hz1];exact vCs_len L) holds a M.length c (vCs M) hlM hg (by omega) (by omega) (growslice_fits (by omega) (by rw [hz2];omega))
   rw [hrun] at hr
   simp only [Result.ok.injEq] at hr
   obtain ⟨rfl,-⟩:=hr
   intro x hx
   simp [Value.ownBlock] at hx
   exact .inr (by omega)
end Go.Proofs.YtmfpmandkhiknaaGreatDoor.vmm
