/-
  Proved: the document's maker of code in memory; an instruction is laid. Conditions: as each theorem says.
  Proved: the document's maker of code: a name's slot, an operator's instruction. Conditions: as each theorem says.
-/
import Derived.Test.YtmfpmandkhiknaaGreatDoorPw35
import Derived.Test.YtmfpmandkhiknaaGreatDoorPw33
import Derived.Test.YtmfpmandkhiknaaGreatDoorPw36
set_option linter.unusedVariables false
set_option linter.unusedSimpArgs false
namespace Go.Proofs.YtmfpmandkhiknaaGreatDoor.mkr
open Go Go.RowKit
open heap vmm
open par (Nd KV ndV ndO wt wtL)
open chk (Nm)
open lex (run_store_float add0)
set_option maxRecDepth 100000
attribute [local go_sem] run_store_float
abbrev sV (t:Nm):Value:=.string ⟨t.toArray⟩
def rC (l:List Ins):Is:=l.map fun i=>(i,i.num)
theorem rC_app (l r:List Ins):rC (l ++ r) = rC l ++ rC r:=by simp [rC]
theorem rC_len (l:List Ins):(rC l).length = l.length:=by simp [rC]
def CRow (w:World) (B:Nat) (v:Value) (l:List Ins):Prop:=w.ownsRow B 54 4 v (rC l).length (iCs (rC l))
def TRow (w:World) (B:Nat) (v:Value) (l:List Nm):Prop:=w.ownsRow B 9 1 v l.length (l.map sV)
structure KA (w:World) (B q:Nat) (m:MS) (cv sv:Value):Prop where
 obj:w.heap[q]? = some (.cells #[cv,sv,.bool m.bad] 108 (0,0))
 code:CRow w B cv m.code
 slots:TRow w B sv m.slots
 bq:B ≤ q
structure Stp (q:Nat) (cv sv:Value) (w:World) (cv' sv':Value) (w':World):Prop where
 t:Turned (q :: (cv.ownBlock.toList ++ sv.ownBlock.toList)) w w'
 own:∀ x ∈ cv'.ownBlock.toList ++ sv'.ownBlock.toList,x ∈ cv.ownBlock.toList ++ sv.ownBlock.toList ∨ w.heap.size ≤ x
theorem Stp.refl (q:Nat) (cv sv:Value) (w:World):Stp q cv sv w cv sv w:=⟨Turned.refl _ _,fun x hx=>.inl hx⟩
theorem Stp.trans {q:Nat} {c0 s0 c1 s1 c2 s2:Value} {w0 w1 w2:World} (h:Stp q c0 s0 w0 c1 s1 w1) (k:Stp q c1 s1 w1 c2 s2 w2):Stp q c0 s0 w0 c2 s2 w2:=by
 refine ⟨⟨k.t.os.trans h.t.os,k.t.tape.trans h.t.tape,k.t.output.trans h.t.output,Nat.le_trans h.t.size k.t.size,fun b hb hn => ?_⟩,fun x hx => ?_⟩
 ·rw [k.t.block b (Nat.lt_of_lt_of_le hb h.t.size) ?_,h.t.block b hb hn]
  intro hm
  rcases List.mem_cons.1 hm with e | e
  ·exact hn (List.mem_cons.2 (.inl e))
  ·rcases h.own b e with e1 | e1
   ·exact hn (List.mem_cons.2 (.inr e1))
   ·omega
 ·rcases k.own x hx with e | e
  ·exact h.own x e
  ·exact .inr (Nat.le_trans h.t.size e)
theorem Stp.of_below {q:Nat} {cv sv:Value} {w w':World} (h:Below w.heap.size w w'):Stp q cv sv w cv sv w':=⟨Turned.of_below h,fun x hx=>.inl hx⟩
theorem Stp.of_turned {q:Nat} {cv sv:Value} {w w':World} (h:Turned [q] w w'):Stp q cv sv w cv sv w':=⟨h.mono (fun k hk=>by simp at hk;simp [hk]),fun x hx=>.inl hx⟩
theorem CRow.kept {w w':World} {B:Nat} {v:Value} {l:List Ins} (h:CRow w B v l) (hk:∀ g o,v.ownBlock = some g → w.heap[g]? = some o → w'.heap[g]? = some o):CRow w' B v l:=by
 obtain ⟨hl,h1 | ⟨g,c,cur,rfl,h2,h3,h4⟩⟩:=h
 ·exact ⟨hl,.inl h1⟩
 ·exact ⟨hl,.inr ⟨g,c,cur,rfl,h2,hk g _ rfl h3,h4⟩⟩
theorem TRow.kept {w w':World} {B:Nat} {v:Value} {l:List Nm} (h:TRow w B v l) (hk:∀ g o,v.ownBlock = some g → w.heap[g]? = some o → w'.heap[g]? = some o):TRow w' B v l:=by
 obtain ⟨hl,h1 | ⟨g,c,cur,rfl,h2,h3,h4⟩⟩:=h
 ·exact ⟨hl,.inl h1⟩
 ·exact ⟨hl,.inr ⟨g,c,cur,rfl,h2,hk g _ rfl h3,h4⟩⟩
theorem CRow.lt {w:World} {B:Nat} {v:Value} {l:List Ins} (h:CRow w B v l):∀ g ∈ v.ownBlock.toList,B ≤ g ∧ g < w.heap.size:=fun g hg=>World.ownsRow.lt h g (by simpa using hg)
theorem TRow.lt {w:World} {B:Nat} {v:Value} {l:List Nm} (h:TRow w B v l):∀ g ∈ v.ownBlock.toList,B ≤ g ∧ g < w.heap.size:=fun g hg=>World.ownsRow.lt h g (by simpa using hg)
theorem CRow.obj {w:World} {B:Nat} {v:Value} {l:List Ins} (h:CRow w B v l):∀ g ∈ v.ownBlock.toList,∃ cs,w.heap[g]? = some (.cells cs 54 (0,0)):=by
 intro g hg
 obtain ⟨_,⟨hv,_⟩ | ⟨g2,c2,cur2,rfl,h4,h5,_⟩⟩:=h
 ·rw [hv] at hg;simp [Value.ownBlock] at hg
 ·have:g = g2:=by simpa [Value.ownBlock] using hg
  subst this
  exact ⟨_,h5⟩
theorem TRow.obj {w:World} {B:Nat} {v:Value} {l:List Nm} (h:TRow w B v l):∀ g ∈ v.ownBlock.toList,∃ cs,w.heap[g]? = some (.cells cs 9 (0,0)):=by
 intro g hg
 obtain ⟨_,⟨hv,_⟩ | ⟨g2,c2,cur2,rfl,h4,h5,_⟩⟩:=h
 ·rw [hv] at hg;simp [Value.ownBlock] at hg
 ·have:g = g2:=by simpa [Value.ownBlock] using hg
  subst this
  exact ⟨_,h5⟩
theorem KA.q_code {w:World} {B q:Nat} {m:MS} {cv sv:Value} (h:KA w B q m cv sv):q ∉ cv.ownBlock.toList:=fun hm=>by
 obtain ⟨cs,e⟩:=h.code.obj q hm
 rw [h.obj] at e
 simp at e
theorem KA.q_slots {w:World} {B q:Nat} {m:MS} {cv sv:Value} (h:KA w B q m cv sv):q ∉ sv.ownBlock.toList:=fun hm=>by
 obtain ⟨cs,e⟩:=h.slots.obj q hm
 rw [h.obj] at e
 simp at e
theorem KA.apart {w:World} {B q:Nat} {m:MS} {cv sv:Value} (h:KA w B q m cv sv):∀ g ∈ cv.ownBlock.toList,g ∉ sv.ownBlock.toList:=fun g hg hm=>by
 obtain ⟨cs,e⟩:=h.code.obj g hg
 obtain ⟨cs2,e2⟩:=h.slots.obj g hm
 rw [e] at e2
 simp at e2
theorem KA.below {w w':World} {B q:Nat} {m:MS} {cv sv:Value} (h:KA w B q m cv sv) (hb:Below w.heap.size w w'):KA w' B q m cv sv:=
 ⟨blk_below h.obj hb,h.code.kept (fun g o hg ho=>blk_below ho hb),h.slots.kept (fun g o hg ho=>blk_below ho hb),h.bq⟩
theorem KA.drew {w:World} {B q:Nat} {m:MS} {cv sv:Value} (h:KA w B q m cv sv):KA w.drew B q m cv sv:=⟨h.obj,h.code,h.slots,h.bq⟩
theorem CRow.slice {w:World} {B:Nat} {v:Value} {l:List Ins} (h:CRow w B v l):∃ a c,v = .slice a l.length c:=by
 have:=(own_zero h).slice
 rw [rC_len] at this
 exact this
theorem TRow.slice {w:World} {B:Nat} {v:Value} {l:List Nm} (h:TRow w B v l):∃ a c,v = .slice a l.length c:=by
 obtain ⟨_,⟨h,h0⟩ | ⟨_,_,_,h,_⟩⟩:=h
 ·exact ⟨none,0,by rw [h,h0]⟩
 ·exact ⟨_,_,h⟩
theorem KA.mark {w:World} {B q:Nat} {m:MS} {cv sv:Value} (h:KA w B q m cv sv) (b:Bool):KA (w.setCell ⟨q,2,none⟩ (.bool b)) B q { m with bad:=b } cv sv:=by
 have ht:Turned [q] w (w.setCell ⟨q,2,none⟩ (.bool b)):=(Turned.refl _ _).setCell (by simp) _
 refine ⟨blk_set h.obj 2 _,h.code.kept (fun g o hg ho=>ht.kept ho (by simp;rintro rfl;exact h.q_code (by rw [hg];simp))),h.slots.kept (fun g o hg ho=>ht.kept ho (by simp;rintro rfl;exact h.q_slots (by rw [hg];simp))),h.bq⟩
theorem app_iown (B:Nat) (v:Value) (C D:Is) (a:Addr) (c:Nat) (w:World) (h:w.ownsRow B 54 4 v C.length (iCs C)) (hg:∀ j u,(iCs D)[j]? = some u → w.cell? (a.add j) = some u) (hB:B ≤ w.heap.size) (hn:C.length ≤ 100000000) (hm:D.length ≤ 100000000) :
  ∃ v2 w2,(Builtin.append_ #[28,28] 28 #[v,.slice (some a) D.length c]).run Tryz.prog w = .ok v2 w2 ∧ w2.ownsRow B 54 4 v2 (C ++ D).length (iCs (C ++ D)) ∧ Turned v.ownBlock.toList w w2 ∧ ∀ x ∈ v2.ownBlock.toList,x ∈ v.ownBlock.toList ∨ w.heap.size ≤ x:=by
 obtain ⟨v2,w2,hrun,h2,h3⟩:=app_ins B v C D a c w h hg hB (by omega) (by omega)
 refine ⟨v2,w2,hrun,h2,h3,?_⟩
 have hown:=h
 rcases hown.2 with ⟨rfl,h0⟩ | ⟨g,cap,cur,rfl,hbg,hgo,hnc,hcm,hcs,htake⟩
 ·have hl0:C = []:=List.length_eq_zero_iff.1 h0
  subst hl0
  obtain ⟨v3,w3,hrun3,h23,-⟩:=app_ins w.heap.size (.slice none 0 0) [] D a c w (World.ownsRow_nil _ _ _ _) hg (Nat.le_refl _) (by simp) (by omega)
  rw [hrun] at hrun3
  simp only [Result.ok.injEq] at hrun3
  obtain ⟨rfl,rfl⟩:=hrun3
  intro x hx
  exact .inr (World.ownsRow.lt h23 x (by simpa using hx)).1
 ·obtain ⟨i0,hi,hz0,hz1,hz2⟩:=info_parts infoI
  have hlM:(iCs D).length = D.length * i0.size:=by rw [hz1];exact iCs_len D
  by_cases hroom:C.length + D.length ≤ cap
  ·have hr:=run_append_room (P:=Tryz.prog) w 28 28 54 i0 Tryz.underlying28 hi g C.length cap cur hgo a D.length c (iCs D) hlM hg (iC_one D) hroom (by rw [hlM,hcs,hz1,← Nat.add_mul];exact Nat.mul_le_mul_right _ hroom)
   rw [hrun] at hr
   simp only [Result.ok.injEq] at hr
   obtain ⟨rfl,-⟩:=hr
   intro x hx
   exact .inl hx
  ·have holds:∀ j u,(iCs C)[j]? = some u → w.cell? ((⟨g,0,none⟩:Addr).add j) = some u:=World.ownsRow.cells hown (g:=g) rfl
   have hr:=run_append_grow (P:=Tryz.prog) w 28 28 54 i0 _ Tryz.underlying28 hi hz0 ⟨g,0,none⟩ C.length cap (iCs C) (by rw [hz1];exact iCs_len C) holds a D.length c (iCs D) hlM hg (by omega) (by omega) (growslice_fits (by omega) (by rw [hz2];omega))
   rw [hrun] at hr
   simp only [Result.ok.injEq] at hr
   obtain ⟨rfl,-⟩:=hr
   intro x hx
   simp [Value.ownBlock] at hx
   exact .inr (by omega)
def MkP (B q:Nat) (cv sv:Value) (w:World) (m2:MS) (r:Value) (e:Ending) (w':World):Prop:=e = .returned r ∧ ∃ cv' sv',KA w' B q m2 cv' sv' ∧ Stp q cv sv w cv' sv' w'
set_option maxHeartbeats 1000000 in
theorem put_any (B q:Nat) (m:MS) (cv sv:Value) (i:Ins) (w:World) (h:KA w B q m cv sv) (hB:B ≤ w.heap.size) (hn:m.code.length ≤ 100000000) :
  Calls Tryz.prog 59 #[.pointer (some ⟨q,0,none⟩),iV ⟨i,i.num⟩] w (MkP B q cv sv w (m.put i) (.int .i64 m.code.length)):=by
 obtain ⟨io,ia,inn,it⟩:=i
 obtain ⟨ca,cc,rfl⟩:=h.code.slice
 have HB:Hid (Below w.heap.size w (w.alloc (iO ⟨⟨io,ia,inn,it⟩,inn⟩))):=(Below.refl _ _).alloc (Nat.le_refl _) _
 have HM1:=Lib.hid (h.below HB.out)
 have hv:=blk_new w (iO ⟨⟨io,ia,inn,it⟩,inn⟩)
 have HOW:=Lib.hid (fun x hx=>(h.code.lt x hx).2)
 clear h
 generalize hwr:w.alloc (iO ⟨⟨io,ia,inn,it⟩,inn⟩) = wr at *
 have x0:=blk_cell (hv) 0
 have x1:=blk_cell (hv) 1
 have x2:=blk_cell (hv) 2
 have x3:=blk_cell (hv) 3
 have xl:=blk_lt (hv)
 simp only [List.getElem?_toArray,List.getElem?_cons_zero,List.getElem?_cons_succ] at x0 x1 x2 x3
 obtain ⟨v2,W4,hrun,hr2,ht4,hown4⟩:=app_iown B (.slice ca m.code.length cc) (rC m.code) [(⟨io,ia,inn,it⟩,inn)] ⟨wr.heap.size,0,none⟩ 1 (wr.drew.alloc (iO ⟨⟨io,ia,inn,it⟩,inn⟩)) ((HM1.out.drew.below ((Below.refl _ _).alloc (Nat.le_refl _) _)).code) (fun j u hu=>by
  rw [add0]
  have hb:=blk_new wr.drew (iO ⟨⟨io,ia,inn,it⟩,inn⟩)
  rw [show wr.drew.heap.size = wr.heap.size from rfl] at hb
  rw [blk_cell hb,List.getElem?_toArray]
  exact hu) (by have:=HB.out.size;simp;omega) (by rw [rC_len];omega) (by simp)
 have hr3:CRow W4 B v2 (m.code ++ [⟨io,ia,inn,it⟩]):=by unfold CRow;rw [rC_app];exact hr2
 obtain ⟨a2,n2,hv2⟩:=hr3.slice
 subst hv2
 have hrun':(Builtin.append_ #[28,28] 28 #[.slice ca m.code.length cc,.slice (some ⟨wr.heap.size,0,none⟩) 1 1]).run Tryz.prog (wr.drew.alloc (.cells #[.int .i64 io,.int .i64 ia,.float .f64 inn,.string ⟨it.toArray⟩] 54 (0,0))) = .ok (.slice a2 (m.code ++ [(⟨io,ia,inn,it⟩:Ins)]).length n2) W4:=hrun
 have HRUN:=Lib.hid hrun'
 clear hrun'
 have hT4:Turned (q :: (Value.slice ca m.code.length cc).ownBlock.toList) wr W4:=((Turned.refl _ wr).drew.alloc _).trans (ht4.mono (fun k hk=>List.mem_cons.2 (.inr hk)))
 have hobj:W4.heap[q]? = some (.cells #[.slice ca m.code.length cc,sv,.bool m.bad] 108 (0,0)):=ht4.kept (blk_old (w:=wr.drew) HM1.out.obj _) HM1.out.q_code
 have n0:W4.cell? ⟨q,0,none⟩ = some (.slice ca m.code.length cc):=blk_cell hobj 0
 have nf0:W4.frozen? ⟨q,0,none⟩ = false:=blk_free hobj 0
 have hql:q < W4.heap.size:=blk_lt hobj
 have hqw:q < wr.heap.size:=blk_lt HM1.out.obj
 have q0:wr.cell? ⟨q,0,none⟩ = some (.slice ca m.code.length cc):=blk_cell HM1.out.obj 0
 have HMF:Hid (KA (W4.setCell ⟨q,0,none⟩ (.slice a2 (m.code ++ [(⟨io,ia,inn,it⟩:Ins)]).length n2)) B q (m.put ⟨io,ia,inn,it⟩) (.slice a2 (m.code ++ [(⟨io,ia,inn,it⟩:Ins)]).length n2) sv):=by
  have ht:Turned [q] W4 (W4.setCell ⟨q,0,none⟩ (.slice a2 (m.code ++ [(⟨io,ia,inn,it⟩:Ins)]).length n2)):=(Turned.refl _ _).setCell (by simp) _
  refine ⟨blk_set hobj 0 _,hr3.kept (fun g o hg ho=>ht.kept ho (by
   simp
   rintro rfl
   obtain ⟨cs,e⟩:=hr3.obj g (by rw [hg];simp)
   rw [hobj] at e
   simp at e)),HM1.out.slots.kept (fun g o hg ho=>ht.kept (ht4.kept (blk_old (w:=wr.drew) ho _) (fun hm=>HM1.out.apart g hm (by rw [hg];simp))) (by simp;rintro rfl;exact HM1.out.q_slots (by rw [hg];simp))),HM1.out.bq⟩
 have HST:Hid (Stp q (.slice ca m.code.length cc) sv w (.slice a2 (m.code ++ [(⟨io,ia,inn,it⟩:Ins)]).length n2) sv (W4.setCell ⟨q,0,none⟩ (.slice a2 (m.code ++ [(⟨io,ia,inn,it⟩:Ins)]).length n2))):=by
  refine ⟨((Turned.of_below HB.out).trans (hT4.mono (fun k hk => ?_))).setCell (by simp) _,fun x hx => ?_⟩
  ·rcases List.mem_cons.1 hk with e | e
   ·rw [e];exact List.mem_cons_self
   ·exact List.mem_cons_of_mem _ (List.mem_append_left _ e)
  ·rcases List.mem_append.1 hx with e | e
   ·rcases hown4 x e with e2 | e2
    ·exact .inl (List.mem_append_left _ e2)
    ·have h1:=HB.out.size
     simp at e2
     exact .inr (by omega)
   ·exact .inl (List.mem_append_right _ e)
 have hle1:(m.code ++ [(⟨io,ia,inn,it⟩:Ins)]).length = m.code.length + 1:=by simp
 rw [hle1] at HMF HST
 have hle2:([(⟨io,ia,inn,it⟩,inn)]:Is).length = 1:=rfl
 rw [hle1] at HRUN
 have hwk:IntKind.i64.wrap (((m.code.length:Int) + 1) - 1) = (m.code.length:Int):=by
  rw [Int.add_sub_cancel]
  exact IntWalk.i64_in _ (by omega)
 clear hle1 hrun hT4 hobj ht4 hown4 hr2 hr3 hv
 go_enter Tryz.func59,Tryz.ntmps59
 go_upto_region 1 with fail
 clear hwr
 go_region_law
  (first
   | (refine Code.step_append_run (by rfl) (by rfl) (by rfl) (by rfl) (by rfl) HRUN.out ?_)
   | (refine par.step_append_run (by rfl) (by rfl) (by rfl) (by rfl) (by rfl) HRUN.out ?_)
   | (trace_state;fail))
 all_goals
  clear n0 nf0 hql hqw q0 x0 x1 x2 x3 xl HRUN HM1
  generalize (W4.setCell ⟨q,0,none⟩ (.slice a2 (m.code.length + 1) n2)) = wf at *
  have q0:wf.cell? ⟨q,0,none⟩ = some (.slice a2 (m.code.length + 1) n2):=blk_cell HMF.out.obj 0
  have hql:=blk_lt HMF.out.obj
  go_wp2_with fail
  go_ret
  exact ⟨rfl,_,_,HMF.out,HST.out⟩
end Go.Proofs.YtmfpmandkhiknaaGreatDoor.mkr
namespace Go.Proofs.YtmfpmandkhiknaaGreatDoor.mkr
open Go Go.RowKit
open heap vmm
open chk (Nm)
open lex (run_store_float add0)
set_option maxRecDepth 100000
attribute [local go_sem] run_store_float
theorem opOf_hit {t:Nm} {i:Nat} {z:Nm × Int} (hz:opL[i]? = some z) (hno:∀ j,j < i → ∀ y,opL[j]? = some y → (y.1 == t) = false) (hh:(z.1 == t) = true):opOf t = z.2:=by
 unfold opOf
 have h:opL.find? (fun x=>x.1 == t) = some z:=by
  obtain ⟨hi,hg⟩:=List.getElem?_eq_some_iff.1 hz
  refine List.find?_eq_some_iff_getElem.2 ⟨hh,i,hi,hg,fun j hj => ?_⟩
  have:=hno j hj _ (List.getElem?_eq_getElem (by omega))
  simpa using this
 rw [h]
theorem opOf_miss {t:Nm} (hno:∀ j,j < 8 → ∀ y,opL[j]? = some y → (y.1 == t) = false):opOf t = -1:=by
 unfold opOf
 have h:opL.find? (fun x=>x.1 == t) = none:=by
  refine List.find?_eq_none.2 fun x hx => ?_
  obtain ⟨j,hj,rfl⟩:=List.getElem_of_mem hx
  rw [hno j hj _ (List.getElem?_eq_getElem hj)]
  exact Bool.false_ne_true
 rw [h]
abbrev opA:List Value := [.string ⟨#[43]⟩,.string ⟨#[45]⟩,.string ⟨#[42]⟩,.string ⟨#[47]⟩,.string ⟨#[37]⟩,.string ⟨#[38]⟩,.string ⟨#[61,61]⟩,.string ⟨#[60]⟩]
abbrev opB:List Value := [.int .i64 7,.int .i64 8,.int .i64 9,.int .i64 10,.int .i64 11,.int .i64 12,.int .i64 13,.int .i64 14]
theorem opA_at:∀ (i:Nat) (z:Nm × Int),opL[i]? = some z → opA[i]? = some (sV z.1) ∧ opB[i]? = some (.int .i64 z.2):=by
 intro i z h
 have e1:opA = opL.map fun x=>sV x.1:=rfl
 have e2:opB = opL.map fun x=>(.int .i64 x.2:Value):=rfl
 rw [e1,e2,List.getElem?_map,List.getElem?_map,h]
 exact ⟨rfl,rfl⟩
set_option maxHeartbeats 1000000 in
theorem op_any (t:Nm) (w:World):Calls Tryz.prog 152 #[.string ⟨t.toArray⟩] w fun e w'=>e = .returned (.int .i64 (opOf t)) ∧ Below w.heap.size w w':=by
 have h1:=blk_new w (.cells opA.toArray 9 (0,0))
 have h2:=blk_new (w.alloc (.cells opA.toArray 9 (0,0))) (.cells opB.toArray 3 (0,0))
 rw [show (w.alloc (.cells opA.toArray 9 (0,0))).heap.size = w.heap.size + 1 by simp] at h2
 have HB:Hid (Below w.heap.size w ((w.alloc (.cells opA.toArray 9 (0,0))).alloc (.cells opB.toArray 3 (0,0)))):=((Below.refl _ _).alloc (Nat.le_refl _) _).alloc (by simp) _
 have H1:=Lib.hid (blk_old h1 (.cells opB.toArray 3 (0,0)))
 have H2:=Lib.hid h2
 clear h1 h2
 go_enter Tryz.func152,Tryz.ntmps152
 go_upto_region 3 with fail
 change Code.wp _ _ _ _ ((w.alloc (.cells opA.toArray 9 (0,0))).alloc (.cells opB.toArray 3 (0,0)))
 generalize (w.alloc (.cells opA.toArray 9 (0,0))).alloc (.cells opB.toArray 3 (0,0)) = w1 at *
 go_wp2_with fail
 go_loopg [5] 8 (fun kk v5 wr=>∃ i:Nat,i + kk = 8 ∧ v5 = .int .i64 i ∧ w1 = wr ∧ ∀ j,j < i → ∀ y,opL[j]? = some y → (y.1 == t) = false)
 case atStart=>exact ⟨0,by omega,rfl,rfl,fun j hj=>by omega⟩
 case round =>
  obtain ⟨i,hik,rfl,rfl,hno⟩:=hrel
  by_cases hlt:i < 8
  ·cases gk with
   | zero=>omega
   | succ gk =>
   obtain ⟨z,hz⟩:∃ z,opL[i]? = some z:=⟨_,List.getElem?_eq_getElem (by show i < 8;exact hlt)⟩
   obtain ⟨a0,a1⟩:=opA_at i z hz
   have t0:=blk_cell H1.out i
   have t1:=blk_cell H2.out i
   rw [List.getElem?_toArray,a0] at t0
   rw [List.getElem?_toArray,a1] at t1
   have l1:=blk_lt H1.out
   have l2:=blk_lt H2.out
   have hI:(i:Int) < 8:=by omega
   clear a0 a1
   cases hzt:(z.1 == t) with
   | true =>
    have HE:=Lib.hid (opOf_hit hz hno hzt)
    clear hno hz
    go_wp2_with fail
    go_ret
    exact ⟨by rw [HE.out];rfl,HB.out⟩
   | false =>
    have HNO:Hid (∀ j,j < i + 1 → ∀ y,opL[j]? = some y → (y.1 == t) = false):=by
     intro j hj y hy
     by_cases e:j = i
     ·subst e;rw [hz] at hy;cases hy;exact hzt
     ·exact hno j (by omega) y hy
    clear hno hz
    go_wp2_with fail
    go_roundg gk
    case rel=>exact ⟨i + 1,by omega,by go_num,rfl,HNO.out⟩
    case measure=>omega
  ·have hi8:i = 8:=by omega
   subst hi8
   have HE:=Lib.hid (opOf_miss hno)
   clear hno
   go_wp2_with fail
   go_ret
   exact ⟨by rw [HE.out];rfl,HB.out⟩
/-! a name's slot -/
theorem slot_hit {l:List Nm} {t:Nm} {i:Nat} (hz:l[i]? = some t) (hno:∀ j,j < i → ∀ y,l[j]? = some y → (y == t) = false):slotOf l t = i:=by
 unfold slotOf
 have h:l.findIdx? (· == t) = some i:=by
  obtain ⟨hi,hg⟩:=List.getElem?_eq_some_iff.1 hz
  refine List.findIdx?_eq_some_iff_getElem.2 ⟨hi,by simp [hg],fun j hj => ?_⟩
  have:=hno j hj _ (List.getElem?_eq_getElem (by omega))
  simpa using this
 rw [h]
theorem slot_miss {l:List Nm} {t:Nm} (hno:∀ j,j < l.length → ∀ y,l[j]? = some y → (y == t) = false):slotOf l t = -1:=by
 unfold slotOf
 have h:l.findIdx? (· == t) = none:=by
  refine List.findIdx?_eq_none_iff.2 fun x hx => ?_
  obtain ⟨j,hj,rfl⟩:=List.getElem_of_mem hx
  exact hno j hj _ (List.getElem?_eq_getElem hj)
 rw [h]
theorem TRow.at {w:World} {B:Nat} {a:Option Addr} {n c j:Nat} {l:List Nm} {x:Nm} (h:TRow w B (.slice a n c) l) (hj:l[j]? = some x):n = l.length ∧ n ≤ c ∧ c ≤ 9223372036854775807 ∧ ∃ g,a = some ⟨g,0,none⟩ ∧ g < w.heap.size ∧ w.cell? ⟨g,j,none⟩ = some (sV x):=by
 have hlt:=World.ownsRow.lt h
 have hcl := @World.ownsRow.cells _ _ _ _ _ _ _ h
 obtain ⟨hl,⟨h1,h2⟩ | ⟨g,c',cur,hv,h2,h3,h4,h5,h6,h7⟩⟩:=h
 ·rw [List.length_eq_zero_iff.1 h2] at hj;simp at hj
 ·have hv2:=hv
  simp only [Value.slice.injEq] at hv2
  obtain ⟨rfl,rfl,rfl⟩:=hv2
  unfold maxLen at h5
  refine ⟨rfl,h4,by omega,g,rfl,(hlt g rfl).2,?_⟩
  have k0:=hcl (g:=g) rfl j (sV x) (by rw [List.getElem?_map,hj];rfl)
  rw [add0] at k0
  exact k0
set_option maxHeartbeats 1000000 in
theorem slot_any (B q:Nat) (m:MS) (cv sv:Value) (t:Nm) (w:World) (h:KA w B q m cv sv) (hn:m.slots.length ≤ 100000000) :
  Calls Tryz.prog 113 #[.pointer (some ⟨q,0,none⟩),.string ⟨t.toArray⟩] w fun e w'=>e = .returned (.int .i64 (slotOf m.slots t)) ∧ Below w.heap.size w w':=by
 have H:=Lib.hid h
 obtain ⟨a,c,rfl⟩:=h.slots.slice
 have q1:w.cell? ⟨q,1,none⟩ = some (.slice a m.slots.length c):=blk_cell h.obj 1
 have hql:=blk_lt h.obj
 clear h
 generalize hl:m.slots = l at *
 go_enter Tryz.func113,Tryz.ntmps113
 go_wp2_with fail
 go_loopg [5] l.length (fun kk v5 wr=>∃ i:Nat,i + kk = l.length ∧ v5 = .int .i64 i ∧ w = wr ∧ ∀ j,j < i → ∀ y,l[j]? = some y → (y == t) = false)
 case atStart=>exact ⟨0,by omega,rfl,rfl,fun j hj=>by omega⟩
 case round =>
  obtain ⟨i,hik,rfl,rfl,hno⟩:=hrel
  by_cases hlt:i < l.length
  ·cases gk with
   | zero=>omega
   | succ gk =>
   obtain ⟨z,hz⟩:∃ z,l[i]? = some z:=⟨_,List.getElem?_eq_getElem hlt⟩
   obtain ⟨-,hn1,hn2,g,rfl,hg,t0⟩:=TRow.at (l:=l) (hl ▸ H.out.slots) hz
   have hI:(i:Int) < (l.length:Int):=by omega
   cases hzt:(z == t) with
   | true =>
    have hze:z = t:=eq_of_beq hzt
    have HE:=Lib.hid (slot_hit (hze ▸ hz) hno)
    clear hno hz
    go_wp2_with fail
    go_ret
    exact ⟨by rw [HE.out];rfl,Below.refl _ _⟩
   | false =>
    have HNO:Hid (∀ j,j < i + 1 → ∀ y,l[j]? = some y → (y == t) = false):=by
     intro j hj y hy
     by_cases e:j = i
     ·subst e;rw [hz] at hy;cases hy;exact hzt
     ·exact hno j (by omega) y hy
    clear hno hz
    go_wp2_with fail
    go_roundg gk
    case rel=>exact ⟨i + 1,by omega,by go_num,rfl,HNO.out⟩
    case measure=>omega
  ·have hi8:i = l.length:=by omega
   subst hi8
   have HE:=Lib.hid (slot_miss hno)
   clear hno
   go_wp2_with fail
   go_ret
   exact ⟨by rw [HE.out];rfl,Below.refl _ _⟩
end Go.Proofs.YtmfpmandkhiknaaGreatDoor.mkr
