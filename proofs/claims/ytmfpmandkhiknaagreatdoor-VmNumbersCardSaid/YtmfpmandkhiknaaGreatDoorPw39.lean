/-
  Proved: the document's maker of code in memory: a name is set, a jump's place is laid. Conditions: as each theorem says.
  Proved: the document's maker of code lays a statement: what holds of all of them. Conditions: as each theorem says.
-/
import Derived.Test.YtmfpmandkhiknaaGreatDoorPw38
set_option linter.unusedVariables false
set_option linter.unusedSimpArgs false
namespace Go.Proofs.YtmfpmandkhiknaaGreatDoor.mkr
open Go Go.RowKit
open heap vmm mapi
open par (Nd KV ndV ndO wt wtL)
open chk (Nm)
open lex (run_store_float add0)
set_option maxRecDepth 100000
attribute [local go_sem] run_store_float
theorem infoS:(Tryz.prog.info? 9).map (fun i=>(i.zero,i.size,i.bytes)) = some (some (.string ⟨#[]⟩),1,16):=by kernel_rfl
theorem app_town (B:Nat) (v:Value) (l:List Nm) (t:Nm) (a:Addr) (c:Nat) (w:World) (h:TRow w B v l) (hg:w.cell? (a.add 0) = some (sV t)) (hB:B ≤ w.heap.size) (hn:l.length ≤ 100000000) :
  ∃ v2 w2,(Builtin.append_ #[39,39] 39 #[v,.slice (some a) 1 c]).run Tryz.prog w = .ok v2 w2 ∧ TRow w2 B v2 (l ++ [t]) ∧ Turned v.ownBlock.toList w w2 ∧ ∀ x ∈ v2.ownBlock.toList,x ∈ v.ownBlock.toList ∨ w.heap.size ≤ x:=by
 obtain ⟨i0,hi,hz0,hz1,hz2⟩:=info_parts infoS
 have hnews:∀ j u,[sV t][j]? = some u → w.cell? (a.add j) = some u:=fun j u hu=>by
  cases j with
  | zero=>simp at hu;rw [← hu];exact hg
  | succ j=>simp at hu
 have hone:∀ u ∈ [sV t],u.oneCell' = true:=by simp [Value.oneCell']
 obtain ⟨v2,w2,hrun,hown,hgr,_⟩:=run_append_own (P:=Tryz.prog) w B 39 39 9 i0 _ 1 16 Tryz.underlying39 hi hz0 hz1 hz2 rfl (by decide) v l.length _ h a 1 c [sV t] rfl hnews hone (by unfold maxLen;omega) (by omega) hB
 refine ⟨v2,w2,hrun,by unfold TRow;rw [List.length_append,List.map_append];exact hown,⟨hgr.os,hgr.tape,hgr.output,hgr.size,fun b hb hn=>hgr.block b hb (fun e=>hn (by simp [← e]))⟩,?_⟩
 have h':=h
 rcases h'.2 with ⟨rfl,h0⟩ | ⟨g,cap,cur,rfl,hbg,hgo,hnc,hcm,hcs,htake⟩
 ·have hl0:l = []:=List.length_eq_zero_iff.1 h0
  subst hl0
  obtain ⟨v3,w3,hrun3,hown3,-⟩:=run_append_own (P:=Tryz.prog) w w.heap.size 39 39 9 i0 _ 1 16 Tryz.underlying39 hi hz0 hz1 hz2 rfl (by decide) (.slice none 0 0) 0 _ (World.ownsRow_nil _ _ _ _) a 1 c [sV t] rfl hnews hone (by unfold maxLen;omega) (by omega) (Nat.le_refl _)
  rw [hrun] at hrun3
  simp only [Result.ok.injEq] at hrun3
  obtain ⟨rfl,rfl⟩:=hrun3
  intro x hx
  exact .inr (World.ownsRow.lt hown3 x (by simpa using hx)).1
 ·by_cases hroom:l.length + 1 ≤ cap
  ·have hr:=run_append_room (P:=Tryz.prog) w 39 39 9 i0 Tryz.underlying39 hi g l.length cap cur hgo a 1 c [sV t] (by rw [hz1];rfl) hnews hone hroom (by rw [hcs,hz1];simp;omega)
   rw [hrun] at hr
   simp only [Result.ok.injEq] at hr
   obtain ⟨rfl,-⟩:=hr
   intro x hx
   exact .inl hx
  ·have holds:∀ j u,(l.map sV)[j]? = some u → w.cell? ((⟨g,0,none⟩:Addr).add j) = some u:=World.ownsRow.cells h (g:=g) rfl
   have hr:=run_append_grow (P:=Tryz.prog) w 39 39 9 i0 _ Tryz.underlying39 hi hz0 ⟨g,0,none⟩ l.length cap (l.map sV) (by rw [hz1];simp) holds a 1 c [sV t] (by rw [hz1];rfl) hnews (by omega) (by omega) (growslice_fits (by omega) (by rw [hz2];omega))
   rw [hrun] at hr
   simp only [Result.ok.injEq] at hr
   obtain ⟨rfl,-⟩:=hr
   intro x hx
   simp [Value.ownBlock] at hx
   exact .inr (by omega)
/-! a jump's place -/
theorem iCs_set:∀ (l:List Ins) (k:Nat) (v:Int),k < l.length → (iCs (rC l)).set (k * 4 + 1) (.int .i64 v) = iCs (rC (setArg l k v))
 | [],k,v,h=>by simp at h
 | x :: l,0,v,h=>rfl
 | x :: l,k + 1,v,h=>by
  have e:iCs (rC (x :: l)) = .int .i64 x.op :: .int .i64 x.arg :: .float .f64 x.num :: .string ⟨x.text.toArray⟩ :: iCs (rC l):=rfl
  have e2:iCs (rC (setArg (x :: l) (k + 1) v)) = .int .i64 x.op :: .int .i64 x.arg :: .float .f64 x.num :: .string ⟨x.text.toArray⟩ :: iCs (rC (setArg l k v)):=by
   unfold setArg
   rw [List.modify_succ_cons]
   rfl
  rw [e,e2,← iCs_set l k v (by simpa using h),show (k + 1) * 4 + 1 = (k * 4 + 1) + 1 + 1 + 1 + 1 by omega]
  simp only [List.set_cons_succ]
theorem setArg_len (l:List Ins) (k:Nat) (v:Int):(setArg l k v).length = l.length:=by simp [setArg]
theorem CRow.land {w:World} {B g c:Nat} {l:List Ins} (h:CRow w B (.slice (some ⟨g,0,none⟩) l.length c) l) {k:Nat} (hk:k < l.length) (v:Int) :
  CRow (w.setCell ⟨g,k * 4 + 1,none⟩ (.int .i64 v)) B (.slice (some ⟨g,0,none⟩) l.length c) (setArg l k v):=by
 have hlen:=iCs_len (rC (setArg l k v))
 have hlen0:=iCs_len (rC l)
 have hl:(rC l).length = l.length:=rC_len l
 have hl2:(rC (setArg l k v)).length = l.length:=by rw [rC_len,setArg_len]
 obtain ⟨_,⟨h1,_⟩ | ⟨g',c',cur,e,h2,h3,h4,h5,h6,h7⟩⟩:=h
 ·cases h1
 ·simp only [Value.slice.injEq,Option.some.injEq,Addr.mk.injEq] at e
  obtain ⟨⟨rfl,-⟩,-,rfl⟩:=e
  refine ⟨hlen,.inr ⟨_,_,cur.setIfInBounds (k * 4 + 1) (.int .i64 v),by rw [hl2],h2,blk_set h3 _ _,by rw [hl2];rw [hl] at h4;exact h4,h5,by rw [Array.size_setIfInBounds];exact h6,?_⟩⟩
  rw [hl2]
  rw [hl] at h7
  rw [Array.toList_setIfInBounds,List.take_set,h7,iCs_set l k v hk]
def kidsSL:List (Int × Value) := [(9,.int .i64 1),(10,.int .i64 3),(11,.int .i64 2),(12,.int .i64 1),(13,.int .i64 1)]
theorem look_kidsS (k:Int):(lookI k kidsSL 0).map (·.2) = (kidsS k).map (fun c=>(.int .i64 (c:Int):Value)):=by
 unfold kidsS kidsSL
 by_cases h1:k = 9
 ·subst h1;rfl
 by_cases h2:k = 10
 ·subst h2;rfl
 by_cases h3:k = 11
 ·subst h3;rfl
 by_cases h4:k = 12
 ·subst h4;rfl
 by_cases h5:k = 13
 ·subst h5;rfl
 ·simp [lookI,h1,h2,h3,h4,h5]
theorem run_kidsS {W:World} {b:Nat} (h:MapI W b kidsSL) (k:Int):(Instr.lookup 161 (.map (some b)) (.int .i64 k) true).run Tryz.prog W = .ok (.tuple #[.int .i64 (((kidsS k).getD 0:Nat):Int),.bool (kidsS k).isSome]) W:=by
 have h1:=run_lookup_ok (P:=Tryz.prog) h Tryz.underlying161 Tryz.underlying3 (.int .i64 0) (by kernel_rfl) k
 have h2:=look_kidsS k
 rw [h1]
 cases hl:lookI k kidsSL 0 with
 | none =>
  rw [hl] at h2
  cases hk:kidsS k with
  | none=>rfl
  | some c=>rw [hk] at h2;cases h2
 | some r =>
  rw [hl] at h2
  cases hk:kidsS k with
  | none=>rw [hk] at h2;cases h2
  | some c =>
   rw [hk] at h2
   simp only [Option.map_some,Option.some.injEq] at h2
   simp [h2]
theorem kid2 {T:TypeId} {w:World} {d:Nat} {xs:List Nd} {g n cp:Nat} {S:List Nat} (h:KV T w (d + 1) xs (.slice (some ⟨g,0,none⟩) n cp) S) {i:Nat} {x:Nd} (hx:xs[i]? = some x) :
  ∃ c s,w.cell? ⟨g,i * 5,none⟩ = some (.int .i64 x.kind) ∧ w.cell? ⟨g,i * 5 + 1,none⟩ = some (.string ⟨x.text.toArray⟩) ∧ w.cell? ⟨g,i * 5 + 2,none⟩ = some (.float .f64 x.num) ∧
   w.cell? ⟨g,i * 5 + 3,none⟩ = some c ∧ w.cell? ⟨g,i * 5 + 4,none⟩ = some (.int .i64 x.at') ∧ KV T w d x.kids c s ∧ ∀ b ∈ s,b ∈ S:=by
 obtain ⟨g2,c,s,e,h1⟩:=h.kid hx
 simp only [Option.some.injEq,Addr.mk.injEq] at e
 obtain ⟨rfl,-⟩:=e
 exact ⟨c,s,h1.2.2.2.2.1,h1.2.2.2.2.2.1,h1.2.2.2.2.2.2.1,h1.2.2.2.2.2.2.2.1,h1.2.2.2.2.2.2.2.2.1,h1.2.2.2.2.2.2.2.2.2.1,h1.2.2.2.2.2.2.2.2.2.2⟩
/-! what is laid,by the kids -/
theorem stmt_eq1 {x y:Nd} (h:x.kids = [y]) (m:MS):stmtC x m = if x.kind = 9 then (setS x.text (exprC y m)).put ⟨4,slotOf (setS x.text (exprC y m)).slots x.text,0,[]⟩
  else if x.kind = 12 then (exprC y m).put ⟨18,0,0,[]⟩
  else if x.kind = 13 then (exprC y m).put ⟨19,0,0,[]⟩
  else { m with bad:=true }:=by
 obtain ⟨k,t,n,ks,a⟩:=x
 have h2:ks = [y]:=h
 subst h2
 rw [stmtC]
 rfl
theorem stmt_eq2 {x y z:Nd} (h:x.kids = [y,z]) (m:MS):stmtC x m = if x.kind = 11 then ((blockC z ((exprC y m).put ⟨16,0,0,[]⟩)).put ⟨15,m.code.length,0,[]⟩).land (exprC y m).code.length
  else { m with bad:=true }:=by
 obtain ⟨k,t,n,ks,a⟩:=x
 have h2:ks = [y,z]:=h
 subst h2
 rw [stmtC]
 rfl
theorem stmt_eq3 {x y z u:Nd} (h:x.kids = [y,z,u]) (m:MS):stmtC x m = if x.kind = 10 then
   (if u.kind = 0 ∧ u.kids = [] then (blockC z ((exprC y m).put ⟨16,0,0,[]⟩)).land (exprC y m).code.length
   else (blockC u (((blockC z ((exprC y m).put ⟨16,0,0,[]⟩)).put ⟨15,0,0,[]⟩).land (exprC y m).code.length)).land (blockC z ((exprC y m).put ⟨16,0,0,[]⟩)).code.length)
  else { m with bad:=true }:=by
 obtain ⟨k,t,n,ks,a⟩:=x
 have h2:ks = [y,z,u]:=h
 subst h2
 rw [stmtC]
 rfl
theorem stmt_bad (x:Nd) (m:MS) (h:kidsS x.kind ≠ some x.kids.length):stmtC x m = { m with bad:=true }:=by
 obtain ⟨k,t,n,ks,a⟩:=x
 have h2:kidsS k ≠ some ks.length:=h
 unfold kidsS at h2
 match ks,h2 with
 | [],h2=>rw [stmtC] <;> simp
 | [y],h2 =>
  have e:stmtC (.mk k t n [y] a) m = _:=stmt_eq1 rfl m
  rw [e]
  show (if k = 9 then _ else if k = 12 then _ else if k = 13 then _ else _) = _
  by_cases h9:k = 9
  ·rw [if_pos (.inl h9)] at h2;exact absurd rfl h2
  rw [if_neg h9]
  by_cases h12:k = 12
  ·rw [if_pos (.inr (.inl h12))] at h2;exact absurd rfl h2
  rw [if_neg h12]
  by_cases h13:k = 13
  ·rw [if_pos (.inr (.inr h13))] at h2;exact absurd rfl h2
  rw [if_neg h13]
 | [y,z],h2 =>
  have e:stmtC (.mk k t n [y,z] a) m = _:=stmt_eq2 rfl m
  rw [e]
  show (if k = 11 then _ else _) = _
  by_cases h11:k = 11
  ·subst h11;exact absurd rfl h2
  rw [if_neg h11]
 | [y,z,u],h2 =>
  have e:stmtC (.mk k t n [y,z,u] a) m = _:=stmt_eq3 rfl m
  rw [e]
  show (if k = 10 then _ else _) = _
  by_cases h11:k = 10
  ·subst h11;exact absurd rfl h2
  rw [if_neg h11]
 | _ :: _ :: _ :: _ :: _,h2=>rw [stmtC] <;> simp
theorem KA.spot {w:World} {B q:Nat} {m:MS} {cv sv:Value} (h:KA w B q m cv sv) {k:Nat} (hk:k < m.code.length) :
  ∃ g c u,cv = .slice (some ⟨g,0,none⟩) m.code.length c ∧ m.code.length ≤ c ∧ c ≤ 9223372036854775807 ∧ g < w.heap.size ∧ w.cell? ⟨g,k * 4 + 1,none⟩ = some u ∧ w.frozen? ⟨g,k * 4 + 1,none⟩ = false:=by
 have hl:(rC m.code).length = m.code.length:=rC_len _
 rcases (own_zero h.code).cells with ⟨-,h0⟩ | ⟨g,c,rfl,hg,hlc,hcm,hc⟩
 ·rw [h0] at hl;simp at hl;omega
 ·obtain ⟨cs,ho⟩:=h.code.obj g (by simp [Value.ownBlock])
  have e1:=(iCs_get (rC m.code) k ((rC m.code)[k]'(by omega)) (List.getElem?_eq_getElem (by omega))).2.1
  exact ⟨g,c,_,by rw [hl],by omega,hcm,hg,hc _ _ e1,blk_free ho _⟩
theorem KA.land {w:World} {B q g c:Nat} {m:MS} {sv:Value} (h:KA w B q m (.slice (some ⟨g,0,none⟩) m.code.length c) sv) {k:Nat} (hk:k < m.code.length) :
  KA (w.setCell ⟨g,k * 4 + 1,none⟩ (.int .i64 m.code.length)) B q (m.land k) (.slice (some ⟨g,0,none⟩) m.code.length c) sv:=by
 have ht:Turned [g] w (w.setCell ⟨g,k * 4 + 1,none⟩ (.int .i64 m.code.length)):=(Turned.refl _ _).setCell (by simp) _
 have hgm:g ∈ (Value.slice (some ⟨g,0,none⟩) m.code.length c).ownBlock.toList:=by simp [Value.ownBlock]
 refine ⟨ht.kept h.obj (by simp;rintro rfl;exact h.q_code hgm),?_,h.slots.kept (fun g2 o hg ho=>ht.kept ho (by simp;rintro rfl;exact h.apart _ hgm (by rw [hg];simp))),h.bq⟩
 have e:(m.land k).code = setArg m.code k m.code.length:=rfl
 unfold CRow
 rw [e]
 exact h.code.land hk m.code.length
theorem XI.land {B q b1 g c:Nat} {x:Nd} {vk:Value} {w0 wr:World} {c0 s0 sv:Value} {m:MS} (h:XI B q b1 x vk w0 c0 s0 m wr (.slice (some ⟨g,0,none⟩) m.code.length c) sv) {k:Nat} (hk:k < m.code.length) :
  XI B q b1 x vk w0 c0 s0 (m.land k) (wr.setCell ⟨g,k * 4 + 1,none⟩ (.int .i64 m.code.length)) (.slice (some ⟨g,0,none⟩) m.code.length c) sv:=
 h.step (h.ka.land hk) ⟨(Turned.refl _ _).setCell (by simp [Value.ownBlock]) _,fun x hx=>.inl hx⟩
theorem XI.drew {B q b1:Nat} {x:Nd} {vk:Value} {w0 wr:World} {c0 s0 cv sv:Value} {m:MS} (h:XI B q b1 x vk w0 c0 s0 m wr cv sv):XI B q b1 x vk w0 c0 s0 m wr.drew cv sv:=h.step h.ka.drew (Stp.of_turned (Turned.refl _ _).drew)
theorem KA.app {W:World} {B q hb:Nat} {m:MS} {cv sv:Value} {t:Nm} (h:KA W B q m cv sv) (hh:W.heap[hb]? = some (.cells #[sV t] 9 (0,0))) (hn:m.slots.length ≤ 100000000) :
  ∃ a2 n2 W4,(Builtin.append_ #[39,39] 39 #[sv,.slice (some ⟨hb,0,none⟩) 1 1]).run Tryz.prog W = .ok (.slice a2 (m.slots.length + 1) n2) W4 ∧ W4.heap[q]? = some (.cells #[cv,sv,.bool m.bad] 108 (0,0)) ∧
   KA (W4.setCell ⟨q,1,none⟩ (.slice a2 (m.slots.length + 1) n2)) B q { m with slots:=m.slots ++ [t] } cv (.slice a2 (m.slots.length + 1) n2) ∧ Stp q cv sv W cv (.slice a2 (m.slots.length + 1) n2) (W4.setCell ⟨q,1,none⟩ (.slice a2 (m.slots.length + 1) n2)):=by
 obtain ⟨v2,W4,hrun,hr2,ht4,hown4⟩:=app_town B sv m.slots t ⟨hb,0,none⟩ 1 W h.slots (by rw [add0,blk_cell hh];rfl) (by have:=(h.own q List.mem_cons_self);omega) hn
 obtain ⟨a2,n2,hv2⟩:=hr2.slice
 have hle:(m.slots ++ [t]).length = m.slots.length + 1:=by simp
 rw [hle] at hv2
 subst hv2
 have hobj:W4.heap[q]? = some (.cells #[cv,sv,.bool m.bad] 108 (0,0)):=ht4.kept h.obj h.q_slots
 have ht:Turned [q] W4 (W4.setCell ⟨q,1,none⟩ (.slice a2 (m.slots.length + 1) n2)):=(Turned.refl _ _).setCell (by simp) _
 refine ⟨a2,n2,W4,hrun,hobj,⟨blk_set hobj 1 _,h.code.kept (fun g o hg ho=>ht.kept (ht4.kept ho (fun hm=>h.apart g (by rw [hg];simp) hm)) (by simp;rintro rfl;exact h.q_code (by rw [hg];simp))),hr2.kept (fun g o hg ho=>ht.kept ho (by
   simp
   rintro rfl
   obtain ⟨cs,e⟩:=hr2.obj g (by rw [hg];simp)
   rw [hobj] at e
   simp at e)),h.bq⟩,⟨(ht4.mono (fun k hk=>List.mem_cons_of_mem _ (List.mem_append_right _ hk))).setCell (by simp) _,fun x hx => ?_⟩⟩
 rcases List.mem_append.1 hx with e | e
 ·exact .inl (List.mem_append_left _ e)
 ·rcases hown4 x e with e2 | e2
  ·exact .inl (List.mem_append_right _ e2)
  ·exact .inr e2
end Go.Proofs.YtmfpmandkhiknaaGreatDoor.mkr
