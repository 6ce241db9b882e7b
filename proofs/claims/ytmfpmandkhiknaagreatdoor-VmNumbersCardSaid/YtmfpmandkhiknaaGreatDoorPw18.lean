/-
  Proved: a value goes on the machine's stack. Conditions: as each theorem says.
  Proved: values come off the machine's stack. Conditions: as each theorem says.
  Proved: what a step of the machine leaves; a function is done, or its call is asked for. Conditions: as each theorem says.
  Proved: a function is done, or its call is asked for. Conditions: as each theorem says.
  Proved: what the machine does of an instruction: those that touch no variable, and neither an operator of two values nor a call. Conditions: as each theorem says.
-/
import Derived.Test.YtmfpmandkhiknaaGreatDoorPw13
import Derived.Test.YtmfpmandkhiknaaGreatDoorPw17
set_option linter.unusedVariables false
set_option linter.unusedSimpArgs false
namespace Go.Proofs.YtmfpmandkhiknaaGreatDoor.vmm
open Go Go.RowKit Ieee
open flt heap
open lex (run_store_float add0)
set_option maxRecDepth 100000
attribute [local go_sem] run_store_float
def PushP (p:Nat) (m:Mac) (cv sv:Value) (V L:Vs) (C:Is) (a:Val) (ra:Nat) (w:World) (e:Ending) (w':World):Prop:=
 if 1024 < a.text.length then e = .panicked [{ v:=badV 2203 [],recovered:=false }] ∧ Below w.heap.size w w'
 else if 64 ≤ L.length then e = .panicked [{ v:=badV 2202 [],recovered:=false }] ∧ Below w.heap.size w w'
 else e = .returned (.tuple #[]) ∧ ∃ sv',MA w' p m cv sv' V (L ++ [(a,ra)]) C ∧ Next p sv w sv' w'
set_option maxHeartbeats 4000000 in
theorem push_any (p:Nat) (m:Mac) (cv sv:Value) (V L:Vs) (C:Is) (a:Val) (ra:Nat) (w:World) (h:MA w p m cv sv V L C) (ha:NumOk a ra) :
  Calls Tryz.prog 39 #[.pointer (some ⟨p,0,none⟩),vV a.isT a.text ra] w (PushP p m cv sv V L C a ra w):=by
 have HB:Hid (Below w.heap.size w (w.alloc (vO a.isT a.text ra))):=(Below.refl _ _).alloc (Nat.le_refl _) _
 obtain ⟨ia,ta,na⟩:=a
 simp only at HB ⊢
 unfold PushP
 simp only
 by_cases h1:1024 < ta.length
 ·simp only [if_pos h1]
  have hd1:decide ((1024:Int) < (ta.length:Int)) = true:=decide_eq_true (by omega)
  clear h
  go_enter Tryz.func39,Tryz.ntmps39
  go_wp2_with (go_at_call 60;refine (fail_yes _ _).mono ?_;rintro e w' ⟨rfl,rfl⟩;exact ⟨rfl,rfl,HB.out⟩)
 ·simp only [if_neg h1]
  have hd1:decide ((1024:Int) < (ta.length:Int)) = false:=decide_eq_false (by omega)
  have hp:=blk_lt h.obj
  have HM1:=Lib.hid (h.below HB.out)
  have hst:=HM1.out.stack
  have hfr:=HM1.out.free 4
  have hfew:=h.few
  obtain ⟨sa,sc,rfl⟩:=h.row.slice
  by_cases h2:64 ≤ L.length
  ·simp only [if_pos h2]
   have hd2:decide ((64:Int) ≤ (L.length:Int)) = true:=decide_eq_true (by omega)
   clear h
   go_enter Tryz.func39,Tryz.ntmps39
   go_wp2_with (go_at_call 60;first | ((with_reducible refine (fail_no _ _).mono ?_);rintro e w' ⟨rfl,rfl⟩) | ((with_reducible refine (fail_yes _ _).mono ?_);rintro e w' ⟨rfl,rfl⟩;exact ⟨rfl,rfl,HB.out⟩))
  ·simp only [if_neg h2]
   have hd2:decide ((64:Int) ≤ (L.length:Int)) = false:=decide_eq_false (by omega)
   clear h
   have hv:=blk_new w (vO ia ta ra)
   generalize hwr:w.alloc (vO ia ta ra) = wr at *
   have x0:=blk_cell (hv) 0
   have x1:=blk_cell (hv) 1
   have x2:=blk_cell (hv) 2
   have xf0:=blk_free (hv) 0
   have xf1:=blk_free (hv) 1
   have xf2:=blk_free (hv) 2
   have xl:=blk_lt (hv)
   simp only [List.getElem?_toArray,List.getElem?_cons_zero,List.getElem?_cons_succ] at x0 x1 x2
   obtain ⟨v2,W4,hrun,hr2,ht4,hown4⟩:=app_own 0 (.slice sa L.length sc) L [(⟨ia,ta,na⟩,ra)] ⟨wr.heap.size,0,none⟩ 1 (wr.drew.alloc (vO ia ta ra)) (HM1.out.drew.row.below ((Below.refl _ _).alloc (Nat.le_refl _) _)) (fun j u hu=>by
    rw [add0]
    have e:vCs [((⟨ia,ta,na⟩:Val),ra)] = [.bool ia,.string ⟨ta.toArray⟩,.float .f64 ra]:=rfl
    rw [e] at hu
    have hb:=blk_new wr.drew (vO ia ta ra)
    rw [show wr.drew.heap.size = wr.heap.size from rfl] at hb
    rw [blk_cell hb,List.getElem?_toArray]
    exact hu) (Nat.zero_le _) (by omega) (by simp)
   obtain ⟨a2,n2,hv2⟩:=hr2.slice
   subst hv2
   have hrun':(Builtin.append_ #[43,43] 43 #[.slice sa L.length sc,.slice (some ⟨wr.heap.size,0,none⟩) 1 1]).run Tryz.prog (wr.drew.alloc (.cells #[.bool ia,.string ⟨ta.toArray⟩,.float .f64 ra] 47 (0,0))) = .ok (.slice a2 (L ++ [((⟨ia,ta,na⟩:Val),ra)]).length n2) W4:=hrun
   have HRUN:=Lib.hid hrun'
   clear hrun'
   have hT4:Turned (p :: (Value.slice sa L.length sc).ownBlock.toList) wr W4:=((Turned.refl _ wr).drew.alloc _).trans (ht4.mono (fun k hk=>List.mem_cons.2 (.inr hk)))
   have hobj:W4.heap[p]? = some (.cells (mRow m cv (.slice sa L.length sc) V).toArray 79 (0,0)):=by
    have h1:(wr.drew.alloc (vO ia ta ra)).heap[p]? = some (.cells (mRow m cv (.slice sa L.length sc) V).toArray 79 (0,0)):=blk_old (w:=wr.drew) HM1.out.obj _
    exact ht4.kept h1 HM1.out.ne_row
   have n4:W4.cell? ⟨p,4,none⟩ = some (.slice sa L.length sc):=blk_cell hobj 4
   have nf4:W4.frozen? ⟨p,4,none⟩ = false:=blk_free hobj 4
   have hpl:p < W4.heap.size:=blk_lt hobj
   have hpw:p < wr.heap.size:=blk_lt HM1.out.obj
   have q4:(wr.alloc (.cells #[.bool ia,.string ⟨ta.toArray⟩,.float .f64 ra] 47 (0,0))).cell? ⟨p,4,none⟩ = some (.slice sa L.length sc):=blk_cell (blk_old HM1.out.obj _) 4
   have HMF:Hid (MA (W4.setCell ⟨p,4,none⟩ (.slice a2 (L ++ [((⟨ia,ta,na⟩:Val),ra)]).length n2)) p m cv (.slice a2 (L ++ [((⟨ia,ta,na⟩:Val),ra)]).length n2) V (L ++ [(⟨ia,ta,na⟩,ra)]) C):=by
    have ho:=blk_set hobj 4 (.slice a2 (L ++ [((⟨ia,ta,na⟩:Val),ra)]).length n2)
    rw [set_stack] at ho
    refine HM1.out.write (hT4.setCell (by simp) _) ho HM1.out.v64 HM1.out.vars HM1.out.vok ?_ (hr2.kept (fun g o hg hb => ?_)) (by simp;omega) rfl
    ·intro x hx
     rcases List.mem_append.1 hx with e | e
     ·exact HM1.out.lok x e
     ·rw [List.mem_singleton.1 e]
      exact ha
    ·rw [blk_other]
     ·exact hb
     ·intro e
      subst e
      obtain ⟨_,⟨hv,_⟩ | ⟨g2,c2,cur2,hv,h4,h5,_⟩⟩:=hr2
      ·rw [hv] at hg;simp [Value.ownBlock] at hg
      ·rw [hv] at hg
       simp [Value.ownBlock] at hg
       subst hg
       rw [hobj] at h5
       simp at h5
   have HNX:Hid (Next p (.slice sa L.length sc) w (.slice a2 (L ++ [((⟨ia,ta,na⟩:Val),ra)]).length n2) (W4.setCell ⟨p,4,none⟩ (.slice a2 (L ++ [((⟨ia,ta,na⟩:Val),ra)]).length n2))):=by
    refine ⟨(Turned.of_below HB.out).trans (hT4.setCell (by simp) _),fun x hx => ?_⟩
    rcases hown4 x hx with e | e
    ·exact .inl e
    ·refine .inr ?_
     have h1:=HB.out.size
     simp at e
     omega
   have hle1:(L ++ [((⟨ia,ta,na⟩:Val),ra)]).length = L.length + 1:=by simp
   rw [hle1] at HMF HNX
   clear hle1
   clear hrun hT4 hobj ht4 hown4 hr2 hv
   go_enter Tryz.func39,Tryz.ntmps39
   go_upto_region 1 with fail
   clear hwr
   go_wp2_with (go_at_call 60;refine (fail_no _ _).mono ?_;rintro e w' ⟨rfl,rfl⟩)
   go_region_law
    (first
     | (refine Code.step_append_run (by rfl) (by rfl) (by rfl) (by rfl) (by rfl) HRUN.out ?_)
     | (refine par.step_append_run (by rfl) (by rfl) (by rfl) (by rfl) (by rfl) HRUN.out ?_)
     | (trace_state;fail))
   all_goals
    go_wp2_with fail
    go_end0
    exact ⟨rfl,_,HMF.out,HNX.out⟩
theorem vCs_take:∀ (L:Vs) (k:Nat),(vCs L).take (k * 3) = vCs (L.take k)
 | [],k=>by simp [vCs]
 | x :: L,0=>by simp [vCs]
 | x :: L,k + 1=>by
  have e:vCs (x :: L) = vC x ++ vCs L:=rfl
  have e2:vCs ((x :: L).take (k + 1)) = vC x ++ vCs (L.take k):=rfl
  have l3:(vC x).length = 3:=rfl
  rw [e,e2,← vCs_take L k,List.take_append,l3,show (k + 1) * 3 - 3 = k * 3 by omega,List.take_of_length_le (by rw [l3];omega)]
theorem vCs_drop:∀ (L:Vs) (k:Nat),(vCs L).drop (k * 3) = vCs (L.drop k)
 | [],k=>by simp [vCs]
 | x :: L,0=>by simp [vCs]
 | x :: L,k + 1=>by
  have e:vCs (x :: L) = vC x ++ vCs L:=rfl
  have l3:(vC x).length = 3:=rfl
  rw [e,List.drop_succ_cons,← vCs_drop L k,List.drop_append,l3,show (k + 1) * 3 - 3 = k * 3 by omega]
  have:(vC x).drop ((k + 1) * 3) = []:=List.drop_eq_nil_of_le (by rw [l3];omega)
  rw [this,List.nil_append]
theorem VRow.take {w:World} {B g c:Nat} {L:Vs} (h:VRow w B (.slice (some ⟨g,0,none⟩) L.length c) L) (k:Nat) (hk:k ≤ L.length):VRow w B (.slice (some ⟨g,0,none⟩) k c) (L.take k):=by
 obtain ⟨_,⟨hv,_⟩ | ⟨g',c',cur,hv,h2,h3,h4,h5,h6,h7⟩⟩:=h
 ·cases hv
 ·cases hv
  have hl:(L.take k).length = k:=by rw [List.length_take];omega
  refine ⟨by rw [vCs_len],.inr ⟨g,c,cur,by rw [hl],h2,h3,by omega,h5,h6,?_⟩⟩
  rw [hl,← vCs_take,← h7,List.take_take]
  congr 1
  omega
def PopP (p:Nat) (m:Mac) (cv sv:Value) (V L:Vs) (C:Is) (n:Nat) (w:World) (e:Ending) (w':World):Prop:=
 if L.length < n then e = .panicked [{ v:=badV 2202 [],recovered:=false }] ∧ w = w'
 else ∃ v sv',e = .returned v ∧ VRow w' w.heap.size v (L.drop (L.length - n)) ∧ MA w' p m cv sv' V (L.take (L.length - n)) C ∧ Next p sv w sv' w'
set_option maxHeartbeats 400000 in
theorem pop_any (p:Nat) (m:Mac) (cv sv:Value) (V L:Vs) (C:Is) (n:Nat) (w:World) (h:MA w p m cv sv V L C) (hn:1 ≤ n) (hn2:n ≤ 10) :
  Calls Tryz.prog 85 #[.pointer (some ⟨p,0,none⟩),.int .i64 n] w (PopP p m cv sv V L C n w):=by
 have HM:=Lib.hid h
 unfold PopP
 have hst:=h.stack
 have hfr:=h.free 4
 have hpl:=blk_lt h.obj
 have hfew:=h.few
 by_cases h1:L.length < n
 ·simp only [if_pos h1]
  have hd:decide ((L.length:Int) < (n:Int)) = true:=decide_eq_true (by omega)
  obtain ⟨sa,sc,rfl⟩:=h.row.slice
  clear h
  go_enter Tryz.func85,Tryz.ntmps85
  go_wp2_with (go_at_call 60;(with_reducible refine (fail_yes _ _).mono ?_);rintro e w' ⟨rfl,rfl⟩;exact ⟨rfl,rfl,rfl⟩)
 ·simp only [if_neg h1]
  have hd:decide ((L.length:Int) < (n:Int)) = false:=decide_eq_false (by omega)
  have hdn:decide (L.length < n) = false:=decide_eq_false (by omega)
  rcases h.row.cells with ⟨-,h0⟩ | ⟨g,c,rfl,hg,-,hlc,hcm,hcl⟩
  ·rw [h0] at h1
   exact absurd hn (by simp at h1;omega)
  obtain ⟨k,hk⟩:∃ k,k + n = L.length:=⟨L.length - n,by omega⟩
  have hki:(L.length:Int) - (n:Int) = (k:Int):=by omega
  have hkl:(k:Int) ≤ (L.length:Int):=by omega
  have hwk:IntKind.i64.wrap (k:Int) = (k:Int):=by unfold IntKind.wrap;simp [IntKind.signed,IntKind.bits];omega
  have hck:¬ c = k:=by omega
  have hkc:k ≤ c:=by omega
  have hlk:L.length - k = n:=by omega
  have hkn:L.length - n = k:=by omega
  rw [hkn]
  have hdl:(L.drop k).length = n:=by rw [List.length_drop];omega
  have HC:Hid (∀ c2,Calls Tryz.prog 42 #[.slice (some ⟨g,k * 3,none⟩) n c2] w.drew fun e w'=>∃ v,e = .returned v ∧ VRow w' w.heap.size v (L.drop k) ∧ Below w.heap.size w.drew w'):=fun c2=>by
   have:=clone_any (L.drop k) g (k * 3) c2 w.drew (fun j u hu=>hcl _ _ (by rw [← vCs_drop,List.getElem?_drop] at hu;exact hu)) (fun e=>by rw [e] at hdl;simp at hdl;omega) (by omega)
   rw [hdl] at this
   exact this
  unfold maxLen at hcm
  clear h hcl h1 hkn hdl
  go_enter Tryz.func85,Tryz.ntmps85
  go_wp2_with (go_at_call 60;(with_reducible refine (fail_no _ _).mono ?_);rintro e w' ⟨rfl,rfl⟩)
  go_region_law
   (go_simp
    go_at_call 42
    refine (HC.out _).mono ?_
    rintro e w5 ⟨v5,rfl,hr5,hb5⟩
    have HR5:=Lib.hid hr5
    have HB5:Hid (Below w.heap.size w w5):=(Below.refl _ w).drew.trans hb5
    have HM5:=Lib.hid (HM.out.below HB5.out)
    have q4:=HM5.out.stack
    have qf4:=HM5.out.free 4
    have ql:=blk_lt HM5.out.obj
    obtain ⟨a5,c5,hv5⟩:=hr5.slice
    subst hv5
    clear hr5 hb5)
  all_goals
   have hble:L.length ≤ 64:=hfew
   have ho:=blk_set (w:=w5.drew) HM5.out.obj 4 (.slice (some ⟨g,0,none⟩) k c)
   rw [set_stack] at ho
   have hkle:k ≤ L.length:=by omega
   have HMF:Hid (MA (w5.drew.setCell ⟨p,4,none⟩ (.slice (some ⟨g,0,none⟩) k c)) p m cv (.slice (some ⟨g,0,none⟩) k c) V (L.take k) C):=by
    refine HM5.out.drew.write ((Turned.refl _ _).setCell (by simp) _) ho HM5.out.v64 HM5.out.vars HM5.out.vok (fun x hx=>HM5.out.lok x (List.mem_of_mem_take hx)) ((HM5.out.drew.row.take k hkle).kept (fun g2 o hg2 hb2 => ?_)) (by rw [List.length_take];omega) rfl
    rw [blk_other]
    ·exact hb2
    ·intro e
     have:=HM5.out.ne_row
     simp [Value.ownBlock] at hg2 this
     omega
   have HRF:Hid (VRow (w5.drew.setCell ⟨p,4,none⟩ (.slice (some ⟨g,0,none⟩) k c)) w.heap.size (.slice a5 (L.drop k).length c5) (L.drop k)):=by
    refine VRow.kept (w:=w5.drew) HR5.out (fun g2 o hg2 hb2 => ?_)
    rw [blk_other]
    ·exact hb2
    ·intro e
     have:=(VRow.own_lt HR5.out g2 (by rw [hg2];simp)).1
     omega
   have HNX:Hid (Next p (.slice (some ⟨g,0,none⟩) L.length c) w (.slice (some ⟨g,0,none⟩) k c) (w5.drew.setCell ⟨p,4,none⟩ (.slice (some ⟨g,0,none⟩) k c))):=⟨(Turned.of_below HB5.out).trans ((Turned.refl _ _).drew.setCell (by simp) _),fun x hx=>.inl hx⟩
   have hdl2:(L.drop k).length = n:=by rw [List.length_drop];omega
   rw [hdl2] at HRF
   clear ho hkle hble hdl2
   go_wp2_with fail
   go_region_law (go_simp;fail)
   all_goals
    go_wp2_with fail
    go_ret
    exact ⟨_,_,rfl,HRF.out,HMF.out,HNX.out⟩
theorem MA.stk {w:World} {p:Nat} {m:Mac} {cv sv:Value} {V L:Vs} {C:Is} (h:MA w p m cv sv V L C) (s:List Val):MA w p { m with stack:=s } cv sv V L C:=
 ⟨h.obj,h.v64,h.vars,h.vok,h.lok,h.row,h.few,h.ins,h.code,h.iok⟩
def ResP (x:Except Bad Mac) (p:Nat) (m:Mac) (cv sv:Value) (V:Vs) (C:Is) (w:World) (e:Ending) (w':World):Prop:=match x with
 | .ok m2=>e = .returned (.tuple #[]) ∧ ∃ sv' V' L',MA w' p m2 cv sv' V' L' C ∧ L'.map (·.1) = m2.stack ∧ Next p sv w sv' w'
 | .error y=>e = .panicked [{ v:=badV y.1 y.2,recovered:=false }] ∧ ∃ sv' L',MA w' p m cv sv' V L' C ∧ Next p sv w sv' w'
theorem Next.of_below {p:Nat} {sv:Value} {w w':World} (h:Below w.heap.size w w'):Next p sv w sv w':=⟨Turned.of_below h,fun x hx=>.inl hx⟩
theorem ResP.behind {x:Except Bad Mac} {p:Nat} {m:Mac} {cv sv sv1:Value} {V:Vs} {C:Is} {w w1:World} {e:Ending} {w':World} (s:List Val) (h:ResP x p { m with stack:=s } cv sv1 V C w1 e w') (hn:Next p sv w sv1 w1):ResP x p m cv sv V C w e w':=by
 unfold ResP at *
 cases x with
 | ok m2 =>
  obtain ⟨he,sv',V',L',h1,h2,h3⟩:=h
  exact ⟨he,sv',V',L',h1,h2,hn.trans h3⟩
 | error y =>
  obtain ⟨he,sv',L',h1,h3⟩:=h
  exact ⟨he,sv',L',h1.stk m.stack,hn.trans h3⟩
theorem ResP.throw {y:Bad} {p:Nat} {m:Mac} {cv sv:Value} {V L:Vs} {C:Is} {w w':World} (h:MA w p m cv sv V L C) (hb:Below w.heap.size w w'):ResP (.error y) p m cv sv V C w (.panicked [{ v:=badV y.1 y.2,recovered:=false }]) w':=
 ⟨rfl,sv,L,h.below hb,Next.of_below hb⟩
theorem PushP.res {p:Nat} {m:Mac} {cv sv:Value} {V L:Vs} {C:Is} {a:Val} {ra:Nat} {w:World} {e:Ending} {w':World} (h:MA w p m cv sv V L C) (hs:L.map (·.1) = m.stack) (hp:PushP p m cv sv V L C a ra w e w'):ResP (pushM m a) p m cv sv V C w e w':=by
 have hl:m.stack.length = L.length:=by rw [← hs,List.length_map]
 unfold PushP at hp
 unfold pushM
 by_cases h1:1024 < a.text.length
 ·rw [if_pos h1] at hp ⊢
  obtain ⟨rfl,hb⟩:=hp
  exact ResP.throw h hb
 rw [if_neg h1] at hp ⊢
 by_cases h2:64 ≤ L.length
 ·rw [if_pos h2] at hp
  rw [if_pos (by omega)]
  obtain ⟨rfl,hb⟩:=hp
  exact ResP.throw h hb
 rw [if_neg h2] at hp
 rw [if_neg (by omega)]
 obtain ⟨he,sv',h3,h4⟩:=hp
 exact ⟨he,sv',V,L ++ [(a,ra)],h3.stk _,by simp [hs],h4⟩
theorem pushR (p:Nat) (m:Mac) (cv sv:Value) (V L:Vs) (C:Is) (a:Val) (ra:Nat) (w:World) (h:MA w p m cv sv V L C) (hs:L.map (·.1) = m.stack) (ha:NumOk a ra) :
  Calls Tryz.prog 39 #[.pointer (some ⟨p,0,none⟩),vV a.isT a.text ra] w (ResP (pushM m a) p m cv sv V C w):=
 (push_any p m cv sv V L C a ra w h ha).mono fun e w' hp=>hp.res h hs
theorem Pure_any (g:List UInt8) (w:World):Calls Tryz.prog 117 #[.string ⟨g.toArray⟩] w fun e w'=>e = .returned (.bool (isPure g)) ∧ w = w':=by
 unfold isPure nNum nText nLen nWhole
 cases h1:(g == [110,117,109]) <;> cases h2:(g == [116,101,120,116]) <;> cases h3:(g == [108,101,110]) <;> cases h4:(g == [119,104,111,108,101]) <;> simp only [Bool.or_true,Bool.or_false,Bool.true_or,Bool.false_or]
 all_goals
  go_enter Tryz.func117,Tryz.ntmps117
  go_wp2_with fail
  go_ret
  exact ⟨rfl,rfl⟩
/-! the machine's cells behind its variables -/
def tailM (m:Mac):List Value:=.int .i64 m.state :: .int .i64 m.call.op :: .string ⟨m.call.path.toArray⟩ :: .string ⟨m.call.path2.toArray⟩ :: .int .i64 m.call.fd :: .int .i64 m.call.off :: .int .i64 m.call.num :: .int .i64 m.call.mode :: .string ⟨m.call.data.toArray⟩ :: .string ⟨m.asked.toArray⟩ :: .int .i64 m.errno :: .string ⟨m.text.toArray⟩ :: []
def rowT (a b c d e:Value) (V:Vs) (T:List Value):List Value:=a :: b :: c :: d :: e :: (vCs V ++ T)
theorem rowT_set {a b c d e:Value} {V:Vs} {T:List Value} (h:V.length = 64) (k:Nat) (u:Value):(rowT a b c d e V T).toArray.setIfInBounds (k + 197) u = (rowT a b c d e V (T.set k u)).toArray:=by
 have hl:=vCs_len V
 rw [h] at hl
 rw [List.setIfInBounds_toArray]
 unfold rowT
 rw [show k + 197 = (k + 192) + 1 + 1 + 1 + 1 + 1 by omega]
 simp only [List.set_cons_succ]
 rw [List.set_append_right _ _ (by omega),hl]
 simp
theorem row_put {W:World} {p:Nat} {a b c d e:Value} {V:Vs} {T:List Value} {t:TypeId} (h64:V.length = 64) (h:W.heap[p]? = some (.cells (rowT a b c d e V T).toArray t (0,0))) (j k:Nat) (hj:k + 197 = j) (u:Value):(W.setCell ⟨p,j,none⟩ u).heap[p]? = some (.cells (rowT a b c d e V (T.set k u)).toArray t (0,0)):=by
 subst hj
 have:=blk_set h (k + 197) u
 rw [rowT_set h64] at this
 exact this
theorem MA.t {w:World} {p:Nat} {m:Mac} {cv sv:Value} {V L:Vs} {C:Is} (h:MA w p m cv sv V L C) (j k:Nat) {u:Value} (hj:k + 197 = j) (hu:(tailM m)[k]? = some u):w.cell? ⟨p,j,none⟩ = some u:=by
 subst hj
 rw [h.cell,row_get h.v64]
 exact hu
theorem MA.poke {w w':World} {p:Nat} {m m':Mac} {cv sv:Value} {V L:Vs} {C:Is} (h:MA w p m cv sv V L C) (ht:Turned [p] w w') (ho:w'.heap[p]? = some (.cells (mRow m' cv sv V).toArray 79 (0,0))) (hc:m'.code = m.code) (hv:m'.vars = m.vars):MA w' p m' cv sv V L C:=
 h.write (ht.mono (fun k hk=>by simp at hk;simp [hk])) ho h.v64 (by rw [hv];exact h.vars) h.vok h.lok (h.row.kept (fun g o hg hb=>ht.kept hb (by
  simp
  rintro rfl
  exact h.ne_row (by rw [hg];simp)))) h.few hc
theorem Next.of_turned {p:Nat} {sv:Value} {w w':World} (h:Turned [p] w w'):Next p sv w sv w':=⟨h.mono (fun k hk=>by simp at hk;simp [hk]),fun x hx=>.inl hx⟩
/-! how many arguments a function has -/
def argL:List (List UInt8 × Int) := [([114,101,97,100],3),([108,105,115,116],1),([115,116,97,116],1),([114,101,97,100,108,105,110,107],1),([99,114,101,97,116,101],2),([109,107,100,105,114],2),([115,121,109,108,105,110,107],2),([119,114,105,116,101],3),([116,114,117,110,99,97,116,101],2),([99,104,109,111,100],2),([114,101,109,111,118,101],1),([114,109,100,105,114],1),([114,101,110,97,109,101],2),([111,112,101,110],1),([114,101,97,100,102,100],3),([119,114,105,116,101,102,100],3),([99,108,111,115,101],1),([99,104,100,105,114],1),(nNum,1),(nText,1),(nLen,1),(nWhole,1)]
theorem argN_eq (g:List UInt8):argN g = argL.lookup g:=rfl
def okArg (x:List UInt8 × Int):Bool:=(isPure x.1 && x.2 == 1) || (!isPure x.1 && x.2 == ((formM x.1).2.length:Int) && decide (1 ≤ x.2) && decide (x.2 ≤ 3) && (formM x.1).2.all (fun r=>r == 80 || r == 81 || r == 68 || r == 111 || r == 110 || r == 109 || r == 102))
theorem argL_ok:argL.all okArg = true:=by decide +kernel
theorem lookup_mem {β:Type} (g:List UInt8) (k:β):∀ l:List (List UInt8 × β),l.lookup g = some k → (g,k) ∈ l
 | [],h=>by cases h
 | (a,b) :: l,h=>by
  rw [List.lookup_cons] at h
  cases e:(g == a) with
  | true =>
   rw [e] at h
   cases h
   rw [eq_of_beq e]
   exact List.mem_cons_self
  | false =>
   rw [e] at h
   exact List.mem_cons_of_mem _ (lookup_mem g k l h)
theorem argN_pure {g:List UInt8} {k:Int} (h:argN g = some k) (hp:isPure g = true):k = 1:=by
 have:=List.all_eq_true.1 argL_ok _ (lookup_mem g k _ (argN_eq g ▸ h))
 unfold okArg at this
 simp [hp] at this
 exact this
theorem argN_form {g:List UInt8} {k:Int} (h:argN g = some k) (hp:isPure g = false):k = ((formM g).2.length:Int) ∧ 1 ≤ k ∧ k ≤ 3 ∧ ∀ r ∈ (formM g).2,r = 80 ∨ r = 81 ∨ r = 68 ∨ r = 111 ∨ r = 110 ∨ r = 109 ∨ r = 102:=by
 have:=List.all_eq_true.1 argL_ok _ (lookup_mem g k _ (argN_eq g ▸ h))
 unfold okArg at this
 simp only [hp,Bool.not_false,Bool.true_and,Bool.false_and,Bool.false_or,Bool.and_eq_true,decide_eq_true_eq,beq_iff_eq,List.all_eq_true,Bool.or_eq_true] at this
 obtain ⟨⟨⟨h1,h2⟩,h3⟩,h4⟩:=this
 refine ⟨h1,h2,h3,fun r hr => ?_⟩
 have:=h4 r hr
 simp only [or_assoc] at this
 exact this
theorem argN_few {g:List UInt8} {k:Int} (h:argN g = some k):1 ≤ k ∧ k ≤ 3:=by
 cases hp:isPure g with
 | true=>rw [argN_pure h hp];decide
 | false=>exact ⟨(argN_form h hp).2.1,(argN_form h hp).2.2.1⟩
theorem MA.tails {w:World} {p:Nat} {m:Mac} {cv sv:Value} {V L:Vs} {C:Is} (h:MA w p m cv sv V L C) :
  w.cell? ⟨p,197,none⟩ = some (.int .i64 m.state) ∧ w.cell? ⟨p,198,none⟩ = some (.int .i64 m.call.op) ∧ w.cell? ⟨p,199,none⟩ = some (.string ⟨m.call.path.toArray⟩) ∧ w.cell? ⟨p,200,none⟩ = some (.string ⟨m.call.path2.toArray⟩) ∧ w.cell? ⟨p,201,none⟩ = some (.int .i64 m.call.fd) ∧ w.cell? ⟨p,202,none⟩ = some (.int .i64 m.call.off) ∧ w.cell? ⟨p,203,none⟩ = some (.int .i64 m.call.num) ∧ w.cell? ⟨p,204,none⟩ = some (.int .i64 m.call.mode) ∧ w.cell? ⟨p,205,none⟩ = some (.string ⟨m.call.data.toArray⟩) ∧ w.cell? ⟨p,206,none⟩ = some (.string ⟨m.asked.toArray⟩) ∧
  w.frozen? ⟨p,197,none⟩ = false ∧ w.frozen? ⟨p,198,none⟩ = false ∧ w.frozen? ⟨p,199,none⟩ = false ∧ w.frozen? ⟨p,200,none⟩ = false ∧ w.frozen? ⟨p,201,none⟩ = false ∧ w.frozen? ⟨p,202,none⟩ = false ∧ w.frozen? ⟨p,203,none⟩ = false ∧ w.frozen? ⟨p,204,none⟩ = false ∧ w.frozen? ⟨p,205,none⟩ = false ∧ w.frozen? ⟨p,206,none⟩ = false ∧ p < w.heap.size:=
 ⟨h.t 197 0 rfl rfl,h.t 198 1 rfl rfl,h.t 199 2 rfl rfl,h.t 200 3 rfl rfl,h.t 201 4 rfl rfl,h.t 202 5 rfl rfl,h.t 203 6 rfl rfl,h.t 204 7 rfl rfl,h.t 205 8 rfl rfl,h.t 206 9 rfl rfl,h.free 197,h.free 198,h.free 199,h.free 200,h.free 201,h.free 202,h.free 203,h.free 204,h.free 205,h.free 206,blk_lt h.obj⟩
theorem push_from {p:Nat} {m:Mac} {cv sv:Value} {V L:Vs} {C:Is} {w:World} (h:MA w p m cv sv V L C) (hs:L.map (·.1) = m.stack) (a:Val) (ra:Nat) (W:World) (hb:Below w.heap.size w W) (ha:NumOk a ra) :
  Calls Tryz.prog 39 #[.pointer (some ⟨p,0,none⟩),vV a.isT a.text ra] W (ResP (pushM m a) p m cv sv V C w):=
 (pushR p m cv sv V L C a ra W (h.below hb) hs ha).mono fun e w' hp=>ResP.behind (m:=m) m.stack hp (Next.of_below hb)
set_option maxHeartbeats 4000000 in
theorem ask_pure (p:Nat) (m:Mac) (cv sv:Value) (V L:Vs) (C:Is) (g:List UInt8) (v:Value) (a:Val) (ra:Nat) (w:World) (h:MA w p m cv sv V L C) (hs:L.map (·.1) = m.stack) (hv:VV w v [(a,ra)]) (hok:NumOk a ra) (hsh:a.text.length ≤ 1024) (hg:isPure g = true) :
  Calls Tryz.prog 90 #[.pointer (some ⟨p,0,none⟩),.string ⟨g.toArray⟩,v] w (ResP (match pureM g a with | .error e=>.error e | .ok v=>pushM m v) p m cv sv V C w):=by
 have HQ:Hid (∀ W,Calls Tryz.prog 117 #[.string ⟨g.toArray⟩] W fun e w'=>e = .returned (.bool true) ∧ W = w'):=fun W=>by have:=Pure_any g W;rw [hg] at this;exact this
 have HU:=Lib.hid (fun W=>pure_any g a ra W hok (by omega))
 have HP:Hid (∀ (c:Val) (r:Nat) (W:World),Below w.heap.size w W → NumOk c r → Calls Tryz.prog 39 #[.pointer (some ⟨p,0,none⟩),vV c.isT c.text r] W (ResP (pushM m c) p m cv sv V C w)):=fun c r W hb hc=>push_from h hs c r W hb hc
 have HTH:Hid (∀ (y:Bad) (W:World),Below w.heap.size w W → ResP (.error y) p m cv sv V C w (.panicked [{ v:=badV y.1 y.2,recovered:=false }]) W):=fun y W hb=>ResP.throw h hb
 obtain ⟨a0,c0,rfl⟩:=hv.slice
 obtain ⟨-,hn1,hn2,g0,off,rfl,hgl,k0,k1,k2⟩:=hv.at (j:=0) rfl
 simp only [Nat.zero_mul,Nat.add_zero] at k0 k1 k2
 unfold maxLen at hn2
 simp only [List.length_singleton] at hn1 hn2 ⊢
 obtain ⟨ia,ta,na⟩:=a
 simp only at k0 k1 k2 HU
 clear h hs hv hok hsh hg
 cases hu:pureM g ⟨ia,ta,na⟩ with
 | error y =>
  rw [hu] at HU
  simp only
  clear hu
  go_enter Tryz.func90,Tryz.ntmps90
  go_wp2_with (first | (go_at_call 117;refine (HQ.out _).mono ?_;rintro e w' ⟨rfl,rfl⟩) | (go_at_call 118;refine (HU.out _).mono ?_;rintro e w5 ⟨hb5,rfl⟩;exact ⟨rfl,HTH.out _ _ hb5⟩))
 | ok c =>
  rw [hu] at HU
  simp only
  clear hu
  have HPC:=Lib.hid (HP.out c)
  clear HP
  cases hp:pushM m c with
  | error z =>
   rw [hp] at HPC
   go_enter Tryz.func90,Tryz.ntmps90
   go_wp2_with (first | (go_at_call 117;refine (HQ.out _).mono ?_;rintro e w' ⟨rfl,rfl⟩) | (go_at_call 118;refine (HU.out _).mono ?_;rintro e w5 ⟨hb5,r,rfl,hr⟩;have HB5:=Lib.hid hb5;have HR5:=Lib.hid hr;clear hb5 hr) | (go_at_call 39;refine (HPC.out _ _ HB5.out HR5.out).mono ?_;rintro e w6 ⟨rfl,hx⟩;exact ⟨rfl,rfl,hx⟩))
  | ok m2 =>
   rw [hp] at HPC
   go_enter Tryz.func90,Tryz.ntmps90
   go_wp2_with (first | (go_at_call 117;refine (HQ.out _).mono ?_;rintro e w' ⟨rfl,rfl⟩) | (go_at_call 118;refine (HU.out _).mono ?_;rintro e w5 ⟨hb5,r,rfl,hr⟩;have HB5:=Lib.hid hb5;have HR5:=Lib.hid hr;clear hb5 hr) | (go_at_call 39;refine (HPC.out _ _ HB5.out HR5.out).mono ?_;rintro e w6 ⟨rfl,hx⟩;have HX:=Lib.hid hx;clear hx))
   go_end0
   exact ⟨rfl,HX.out⟩
set_option maxHeartbeats 4000000 in
theorem ask_call (p:Nat) (m:Mac) (cv sv:Value) (V L:Vs) (C:Is) (g:List UInt8) (v:Value) (Lv:Vs) (w:World) (h:MA w p m cv sv V L C) (hs:L.map (·.1) = m.stack) (hv:VV w v Lv) (hok:VsOk Lv) (hN:argN g = some (Lv.length:Int)) (hg:isPure g = false) :
  Calls Tryz.prog 90 #[.pointer (some ⟨p,0,none⟩),.string ⟨g.toArray⟩,v] w (ResP (match argsM { noCal with op:=(formM g).1 } (Lv.map (·.1)) (formM g).2 with | .error e=>.error e | .ok c=>.ok { m with call:=c,asked:=g,state:=1 }) p m cv sv V C w):=by
 have HQ:Hid (∀ W,Calls Tryz.prog 117 #[.string ⟨g.toArray⟩] W fun e w'=>e = .returned (.bool false) ∧ W = w'):=fun W=>by have:=Pure_any g W;rw [hg] at this;exact this
 obtain ⟨ha1,ha2,ha3,ha4⟩:=argN_form hN hg
 have HA:=Lib.hid (asked_any g v Lv w hv hok (by omega) (by omega) ha4)
 have HTH:Hid (∀ (y:Bad) (W:World),Below w.heap.size w W → ResP (.error y) p m cv sv V C w (.panicked [{ v:=badV y.1 y.2,recovered:=false }]) W):=fun y W hb=>ResP.throw h hb
 have HM:=Lib.hid h
 have HS:=Lib.hid hs
 clear h hs hv hok hN hg ha1 ha2 ha3 ha4
 generalize argsM { noCal with op:=(formM g).1 } (Lv.map (·.1)) (formM g).2 = R at *
 cases R with
 | error y =>
  simp only
  go_enter Tryz.func90,Tryz.ntmps90
  go_wp2_with (first | (go_at_call 117;refine (HQ.out _).mono ?_;rintro e w' ⟨rfl,rfl⟩) | (go_at_call 119;refine (HA.out).mono ?_;rintro e w5 ⟨hb5,rfl⟩;exact ⟨rfl,HTH.out _ _ hb5⟩))
 | ok c =>
  simp only
  go_enter Tryz.func90,Tryz.ntmps90
  go_wp2_with (first | (go_at_call 117;refine (HQ.out _).mono ?_;rintro e w' ⟨rfl,rfl⟩) | (go_at_call 119;refine (HA.out).mono ?_;rintro e w5 ⟨hb5,rfl⟩;have HB5:=Lib.hid hb5;have HM5:=Lib.hid (HM.out.below hb5);clear hb5;obtain ⟨q0,q1,q2,q3,q4,q5,q6,q7,q8,q9,f0,f1,f2,f3,f4,f5,f6,f7,f8,f9,ql⟩:=HM5.out.tails))
  have h64:=HM5.out.v64
  go_end0
  refine ⟨rfl,sv,V,L,MA.poke HM5.out ?_ ?_ rfl rfl,HS.out,(Next.of_below HB5.out).trans (Next.of_turned ?_)⟩
  ·exact (((((((((((Turned.refl _ _).setCell (by simp) _).setCell (by simp) _).setCell (by simp) _).setCell (by simp) _).setCell (by simp) _).setCell (by simp) _).setCell (by simp) _).setCell (by simp) _).setCell (by simp) _).setCell (by simp) _)
  ·exact (row_put h64 (row_put h64 (row_put h64 (row_put h64 (row_put h64 (row_put h64 (row_put h64 (row_put h64 (row_put h64 (row_put h64 HM5.out.obj 198 1 rfl _) 199 2 rfl _) 200 3 rfl _) 201 4 rfl _) 202 5 rfl _) 203 6 rfl _) 204 7 rfl _) 205 8 rfl _) 206 9 rfl _) 197 0 rfl _)
  ·exact (((((((((((Turned.refl _ _).setCell (by simp) _).setCell (by simp) _).setCell (by simp) _).setCell (by simp) _).setCell (by simp) _).setCell (by simp) _).setCell (by simp) _).setCell (by simp) _).setCell (by simp) _).setCell (by simp) _)
theorem ask_any (p:Nat) (m:Mac) (cv sv:Value) (V L:Vs) (C:Is) (g:List UInt8) (v:Value) (Lv:Vs) (w:World) (h:MA w p m cv sv V L C) (hs:L.map (·.1) = m.stack) (hv:VV w v Lv) (hok:VsOk Lv) (hsh:∀ x ∈ Lv,x.1.text.length ≤ 1024) (hN:argN g = some (Lv.length:Int)) :
  Calls Tryz.prog 90 #[.pointer (some ⟨p,0,none⟩),.string ⟨g.toArray⟩,v] w (ResP (askM m g (Lv.map (·.1))) p m cv sv V C w):=by
 unfold askM
 cases hg:isPure g with
 | true =>
  rw [if_pos rfl]
  have h1:=argN_pure hN hg
  match Lv,h1,hv,hok,hsh with
  | [(a,ra)],_,hv,hok,hsh=>exact ask_pure p m cv sv V L C g v a ra w h hs hv (hok _ (List.mem_singleton.2 rfl)) (hsh _ (List.mem_singleton.2 rfl)) hg
  | [],h1,_,_,_=>simp at h1
  | _ :: _ :: _,h1,_,_,_=>simp at h1;omega
 | false =>
  rw [if_neg (by simp)]
  exact ask_call p m cv sv V L C g v Lv w h hs hv hok hN hg
abbrev iV (x:Ins × Nat):Value:=.agg #[.int .i64 x.1.op,.int .i64 x.1.arg,.float .f64 x.2,.string ⟨x.1.text.toArray⟩]
abbrev iO (x:Ins × Nat):Obj:=.cells #[.int .i64 x.1.op,.int .i64 x.1.arg,.float .f64 x.2,.string ⟨x.1.text.toArray⟩] 54 (0,0)
def pop1M (m:Mac):Option (Val × List Val):=if h:m.stack = [] then none else some (m.stack.getLast h,m.stack.dropLast)
theorem popM_1 (m:Mac):popM m 1 = match pop1M m with
  | none=>.error (2202,[])
  | some (a,s)=>.ok ([a],{ m with stack:=s }):=by
 unfold popM pop1M
 by_cases h:m.stack = []
 ·simp [h]
 ·have hl:0 < m.stack.length:=List.length_pos_iff.2 h
  rw [if_neg (by omega),dif_neg h]
  have e:=List.dropLast_concat_getLast h
  simp only
  congr 2
  ·conv=>lhs;rw [← e]
   rw [List.drop_append]
   simp
  ·rw [List.dropLast_eq_take]
def Pop1P (p:Nat) (m:Mac) (cv sv:Value) (V:Vs) (C:Is) (w:World) (x:Option (Val × List Val)) (e:Ending) (w':World):Prop:=match x with
 | none=>e = .panicked [{ v:=badV 2202 [],recovered:=false }] ∧ w = w'
 | some (a,s)=>∃ g c ra sv' L',e = .returned (.slice (some ⟨g,0,none⟩) 1 c) ∧ 1 ≤ c ∧ c ≤ 9223372036854775807 ∧ g < w'.heap.size ∧ w.heap.size ≤ g ∧ w'.cell? ⟨g,0,none⟩ = some (.bool a.isT) ∧ w'.cell? ⟨g,1,none⟩ = some (.string ⟨a.text.toArray⟩) ∧ w'.cell? ⟨g,2,none⟩ = some (.float .f64 ra) ∧ NumOk a ra ∧ MA w' p { m with stack:=s } cv sv' V L' C ∧ L'.map (·.1) = s ∧ Next p sv w sv' w'
theorem pop1_any (p:Nat) (m:Mac) (cv sv:Value) (V L:Vs) (C:Is) (x:Option (Val × List Val)) (w:World) (h:MA w p m cv sv V L C) (hs:L.map (·.1) = m.stack) (hx:pop1M m = x) :
  Calls Tryz.prog 85 #[.pointer (some ⟨p,0,none⟩),.int .i64 1] w (Pop1P p m cv sv V C w x):=by
 refine (pop_any p m cv sv V L C 1 w h (Nat.le_refl _) (by decide)).mono fun e w' hp => ?_
 subst hx
 unfold PopP at hp
 by_cases h1:L.length < 1
 ·rw [if_pos h1] at hp
  have hl:L = []:=List.length_eq_zero_iff.1 (by omega)
  have hm:m.stack = []:=by rw [← hs,hl];rfl
  have:pop1M m = none:=by unfold pop1M;rw [dif_pos hm]
  rw [this]
  exact hp
 ·rw [if_neg h1] at hp
  obtain ⟨v,sv',rfl,hr,hma,hn⟩:=hp
  have hne:L ≠ []:=fun e=>h1 (by rw [e];exact Nat.zero_lt_one)
  have hm:m.stack ≠ []:=fun e=>hne (by rw [← hs] at e;simpa using e)
  have hpm:pop1M m = some (m.stack.getLast hm,m.stack.dropLast):=by unfold pop1M;rw [dif_neg hm]
  rw [hpm]
  obtain ⟨⟨a,ra⟩,hla⟩:∃ x,L.getLast hne = x:=⟨_,rfl⟩
  have hd:L.drop (L.length - 1) = [(a,ra)]:=by
   have e:=List.dropLast_concat_getLast hne
   rw [hla] at e
   conv=>lhs;rw [← e]
   rw [List.drop_append]
   simp
  have ha:m.stack.getLast hm = a:=by
   have:(L.map (·.1)).getLast (by simpa using hne) = a:=by rw [List.getLast_map,hla]
   simpa only [hs] using this
  have ht:(L.take (L.length - 1)).map (·.1) = m.stack.dropLast:=by rw [← hs,List.map_take,List.dropLast_eq_take,List.length_map]
  rw [hd] at hr
  have hmem:(a,ra) ∈ L:=by rw [← hla];exact List.getLast_mem hne
  rcases hr.cells with ⟨-,h0⟩ | ⟨g,c,rfl,hg,hb,hlc,hcm,hcl⟩
  ·cases h0
  ·unfold maxLen at hcm
   refine ⟨g,c,ra,sv',_,rfl,hlc,by omega,hg,hb,?_,?_,?_,?_,hma.stk _,ht,hn⟩
   ·rw [ha];exact hcl 0 _ rfl
   ·rw [ha];exact hcl 1 _ rfl
   ·exact hcl 2 _ rfl
   ·rw [ha];exact h.lok _ hmem
theorem push_behind {p:Nat} {m:Mac} {cv sv sv5:Value} {V L5:Vs} {C:Is} {w w5 W:World} {s:List Val} {r:Nat} {X:Except Bad Mac} (h:MA w5 p { m with stack:=s } cv sv5 V L5 C) (hs:L5.map (·.1) = s) (hn:Next p sv w sv5 w5) (c:Val) (hX:pushM { m with stack:=s } c = X) (hb:Below w5.heap.size w5 W) (hc:NumOk c r) :
  Calls Tryz.prog 39 #[.pointer (some ⟨p,0,none⟩),vV c.isT c.text r] W (ResP X p m cv sv V C w):=by
 subst hX
 exact (push_from h hs c r W hb hc).mono fun e w' hp=>ResP.behind s hp hn
theorem MA.box {w w1 w5:World} {p:Nat} {m:Mac} {cv sv sv5:Value} {V L:Vs} {C:Is} {o:Obj} (h:MA w p m cv sv V L C) (ho:w1.heap[w.heap.size]? = some o) (hn:Next p sv w1 sv5 w5):w5.heap[w.heap.size]? = some o:=by
 refine hn.1.kept ho (fun hm => ?_)
 have h1:=blk_lt h.obj
 rcases List.mem_cons.1 hm with e | e
 ·omega
 ·have:=(h.row.own_lt _ e).2
  omega
set_option maxHeartbeats 4000000 in
theorem do_halt (p:Nat) (m:Mac) (cv sv:Value) (V L:Vs) (C:Is) (arg:Int) (num:Nat) (t:List UInt8) (r:Nat) (w:World) (h:MA w p m cv sv V L C) (hs:L.map (·.1) = m.stack) :
  Calls Tryz.prog 61 #[.pointer (some ⟨p,0,none⟩),iV ⟨⟨0,arg,num,t⟩,r⟩] w (ResP (.ok { m with state:=2 }) p m cv sv V C w):=by
 have HM:=Lib.hid h
 have HS:=Lib.hid hs
 clear h hs
 go_enter Tryz.func61,Tryz.ntmps61
 go_upto_region 1 with fail
 have hb1:=blk_new w (iO ⟨⟨0,arg,num,t⟩,r⟩)
 have HB1:Hid (Below w.heap.size w (w.alloc (iO ⟨⟨0,arg,num,t⟩,r⟩))):=(Below.refl _ _).alloc (Nat.le_refl _) _
 have HM1:=Lib.hid (HM.out.below HB1.out)
 change Code.wp _ _ _ _ (w.alloc (iO ⟨⟨0,arg,num,t⟩,r⟩))
 generalize w.alloc (iO ⟨⟨0,arg,num,t⟩,r⟩) = w1 at *
 have x0:=blk_cell (hb1) 0
 have x1:=blk_cell (hb1) 1
 have x2:=blk_cell (hb1) 2
 have x3:=blk_cell (hb1) 3
 have xl:=blk_lt (hb1)
 simp only [List.getElem?_toArray,List.getElem?_cons_zero,List.getElem?_cons_succ] at x0 x1 x2 x3
 have HX1:=Lib.hid hb1
 clear hb1
 obtain ⟨q0,q1,q2,q3,q4,q5,q6,q7,q8,q9,f0,f1,f2,f3,f4,f5,f6,f7,f8,f9,ql⟩:=HM1.out.tails
 go_wp2_with fail
 go_end0
 refine ⟨rfl,sv,V,L,MA.poke HM1.out ?_ ?_ rfl rfl,HS.out,(Next.of_below HB1.out).trans (Next.of_turned ?_)⟩
 ·exact (Turned.refl _ _).setCell (by simp) _
 ·exact row_put HM1.out.v64 HM1.out.obj 197 0 rfl _
 ·exact (Turned.refl _ _).setCell (by simp) _
set_option maxHeartbeats 4000000 in
theorem do_jump (p:Nat) (m:Mac) (cv sv:Value) (V L:Vs) (C:Is) (arg:Int) (num:Nat) (t:List UInt8) (r:Nat) (w:World) (h:MA w p m cv sv V L C) (hs:L.map (·.1) = m.stack) :
  Calls Tryz.prog 61 #[.pointer (some ⟨p,0,none⟩),iV ⟨⟨15,arg,num,t⟩,r⟩] w (ResP (.ok { m with pc:=arg }) p m cv sv V C w):=by
 have HM:=Lib.hid h
 have HS:=Lib.hid hs
 clear h hs
 go_enter Tryz.func61,Tryz.ntmps61
 go_upto_region 1 with fail
 have hb1:=blk_new w (iO ⟨⟨15,arg,num,t⟩,r⟩)
 have HB1:Hid (Below w.heap.size w (w.alloc (iO ⟨⟨15,arg,num,t⟩,r⟩))):=(Below.refl _ _).alloc (Nat.le_refl _) _
 have HM1:=Lib.hid (HM.out.below HB1.out)
 change Code.wp _ _ _ _ (w.alloc (iO ⟨⟨15,arg,num,t⟩,r⟩))
 generalize w.alloc (iO ⟨⟨15,arg,num,t⟩,r⟩) = w1 at *
 have x0:=blk_cell (hb1) 0
 have x1:=blk_cell (hb1) 1
 have x2:=blk_cell (hb1) 2
 have x3:=blk_cell (hb1) 3
 have xl:=blk_lt (hb1)
 simp only [List.getElem?_toArray,List.getElem?_cons_zero,List.getElem?_cons_succ] at x0 x1 x2 x3
 have HX1:=Lib.hid hb1
 clear hb1
 have q1:w1.cell? ⟨p,1,none⟩ = some (.int .i64 m.pc):=HM1.out.cell 1
 have f1:=HM1.out.free 1
 have ql:=blk_lt HM1.out.obj
 go_wp2_with fail
 go_end0
 refine ⟨rfl,sv,V,L,MA.poke HM1.out ?_ ?_ rfl rfl,HS.out,(Next.of_below HB1.out).trans (Next.of_turned ?_)⟩
 ·exact (Turned.refl _ _).setCell (by simp) _
 ·have:=blk_set HM1.out.obj 1 (.int .i64 arg)
  rw [List.setIfInBounds_toArray] at this
  exact this
 ·exact (Turned.refl _ _).setCell (by simp) _
set_option maxHeartbeats 4000000 in
theorem do_num (p:Nat) (m:Mac) (cv sv:Value) (V L:Vs) (C:Is) (arg:Int) (num:Nat) (t:List UInt8) (r:Nat) (w:World) (h:MA w p m cv sv V L C) (hs:L.map (·.1) = m.stack) (hr:NumOk (numV num) r) :
  Calls Tryz.prog 61 #[.pointer (some ⟨p,0,none⟩),iV ⟨⟨1,arg,num,t⟩,r⟩] w (ResP (pushM m (numV num)) p m cv sv V C w):=by
 have HM:=Lib.hid h
 have HR:=Lib.hid hr
 have HP:Hid (∀ W,Below w.heap.size w W → Calls Tryz.prog 39 #[.pointer (some ⟨p,0,none⟩),vV false [] r] W (ResP (pushM m (numV num)) p m cv sv V C w)):=fun W hb=>push_from h hs (numV num) r W hb hr
 clear h hs hr
 cases hX:pushM m (numV num) with
 | error z =>
  rw [hX] at HP
  go_enter Tryz.func61,Tryz.ntmps61
  go_upto_region 1 with fail
  have hb1:=blk_new w (iO ⟨⟨1,arg,num,t⟩,r⟩)
  have HB1:Hid (Below w.heap.size w (w.alloc (iO ⟨⟨1,arg,num,t⟩,r⟩))):=(Below.refl _ _).alloc (Nat.le_refl _) _
  have HM1:=Lib.hid (HM.out.below HB1.out)
  change Code.wp _ _ _ _ (w.alloc (iO ⟨⟨1,arg,num,t⟩,r⟩))
  generalize w.alloc (iO ⟨⟨1,arg,num,t⟩,r⟩) = w1 at *
  have x0:=blk_cell (hb1) 0
  have x1:=blk_cell (hb1) 1
  have x2:=blk_cell (hb1) 2
  have x3:=blk_cell (hb1) 3
  have xl:=blk_lt (hb1)
  simp only [List.getElem?_toArray,List.getElem?_cons_zero,List.getElem?_cons_succ] at x0 x1 x2 x3
  have HX1:=Lib.hid hb1
  clear hb1
  go_wp2_with (first | (go_at_call 40;refine (number_any _ _).mono ?_;rintro e w5 ⟨rfl,hb5⟩;have HB5:=Lib.hid (HB1.out.trans (hb5.mono HB1.out.size));clear hb5) | (go_at_call 39;refine (HP.out _ HB5.out).mono ?_;rintro e w6 ⟨rfl,hx⟩;exact ⟨rfl,rfl,hx⟩))
 | ok m2 =>
  rw [hX] at HP
  go_enter Tryz.func61,Tryz.ntmps61
  go_upto_region 1 with fail
  have hb1:=blk_new w (iO ⟨⟨1,arg,num,t⟩,r⟩)
  have HB1:Hid (Below w.heap.size w (w.alloc (iO ⟨⟨1,arg,num,t⟩,r⟩))):=(Below.refl _ _).alloc (Nat.le_refl _) _
  have HM1:=Lib.hid (HM.out.below HB1.out)
  change Code.wp _ _ _ _ (w.alloc (iO ⟨⟨1,arg,num,t⟩,r⟩))
  generalize w.alloc (iO ⟨⟨1,arg,num,t⟩,r⟩) = w1 at *
  have x0:=blk_cell (hb1) 0
  have x1:=blk_cell (hb1) 1
  have x2:=blk_cell (hb1) 2
  have x3:=blk_cell (hb1) 3
  have xl:=blk_lt (hb1)
  simp only [List.getElem?_toArray,List.getElem?_cons_zero,List.getElem?_cons_succ] at x0 x1 x2 x3
  have HX1:=Lib.hid hb1
  clear hb1
  go_wp2_with (first | (go_at_call 40;refine (number_any _ _).mono ?_;rintro e w5 ⟨rfl,hb5⟩;have HB5:=Lib.hid (HB1.out.trans (hb5.mono HB1.out.size));clear hb5) | (go_at_call 39;refine (HP.out _ HB5.out).mono ?_;rintro e w6 ⟨rfl,hx⟩;have HX:=Lib.hid hx;clear hx))
  go_end0
  exact ⟨rfl,HX.out⟩
set_option maxHeartbeats 4000000 in
theorem do_text (p:Nat) (m:Mac) (cv sv:Value) (V L:Vs) (C:Is) (arg:Int) (num:Nat) (t:List UInt8) (r:Nat) (w:World) (h:MA w p m cv sv V L C) (hs:L.map (·.1) = m.stack) :
  Calls Tryz.prog 61 #[.pointer (some ⟨p,0,none⟩),iV ⟨⟨2,arg,num,t⟩,r⟩] w (ResP (pushM m (textV t)) p m cv sv V C w):=by
 have HM:=Lib.hid h
 have HP:Hid (∀ W,Below w.heap.size w W → Calls Tryz.prog 39 #[.pointer (some ⟨p,0,none⟩),vV true t 0] W (ResP (pushM m (textV t)) p m cv sv V C w)):=fun W hb=>push_from h hs (textV t) 0 W hb num0
 clear h hs
 cases hX:pushM m (textV t) with
 | error z =>
  rw [hX] at HP
  go_enter Tryz.func61,Tryz.ntmps61
  go_upto_region 1 with fail
  have hb1:=blk_new w (iO ⟨⟨2,arg,num,t⟩,r⟩)
  have HB1:Hid (Below w.heap.size w (w.alloc (iO ⟨⟨2,arg,num,t⟩,r⟩))):=(Below.refl _ _).alloc (Nat.le_refl _) _
  have HM1:=Lib.hid (HM.out.below HB1.out)
  change Code.wp _ _ _ _ (w.alloc (iO ⟨⟨2,arg,num,t⟩,r⟩))
  generalize w.alloc (iO ⟨⟨2,arg,num,t⟩,r⟩) = w1 at *
  have x0:=blk_cell (hb1) 0
  have x1:=blk_cell (hb1) 1
  have x2:=blk_cell (hb1) 2
  have x3:=blk_cell (hb1) 3
  have xl:=blk_lt (hb1)
  simp only [List.getElem?_toArray,List.getElem?_cons_zero,List.getElem?_cons_succ] at x0 x1 x2 x3
  have HX1:=Lib.hid hb1
  clear hb1
  go_wp2_with (go_at_call 39;refine (HP.out _ HB1.out).mono ?_;rintro e w6 ⟨rfl,hx⟩;exact ⟨rfl,rfl,hx⟩)
 | ok m2 =>
  rw [hX] at HP
  go_enter Tryz.func61,Tryz.ntmps61
  go_upto_region 1 with fail
  have hb1:=blk_new w (iO ⟨⟨2,arg,num,t⟩,r⟩)
  have HB1:Hid (Below w.heap.size w (w.alloc (iO ⟨⟨2,arg,num,t⟩,r⟩))):=(Below.refl _ _).alloc (Nat.le_refl _) _
  have HM1:=Lib.hid (HM.out.below HB1.out)
  change Code.wp _ _ _ _ (w.alloc (iO ⟨⟨2,arg,num,t⟩,r⟩))
  generalize w.alloc (iO ⟨⟨2,arg,num,t⟩,r⟩) = w1 at *
  have x0:=blk_cell (hb1) 0
  have x1:=blk_cell (hb1) 1
  have x2:=blk_cell (hb1) 2
  have x3:=blk_cell (hb1) 3
  have xl:=blk_lt (hb1)
  simp only [List.getElem?_toArray,List.getElem?_cons_zero,List.getElem?_cons_succ] at x0 x1 x2 x3
  have HX1:=Lib.hid hb1
  clear hb1
  go_wp2_with (go_at_call 39;refine (HP.out _ HB1.out).mono ?_;rintro e w6 ⟨rfl,hx⟩;have HX:=Lib.hid hx;clear hx)
  go_end0
  exact ⟨rfl,HX.out⟩
set_option maxHeartbeats 4000000 in
theorem do_drop (p:Nat) (m:Mac) (cv sv:Value) (V L:Vs) (C:Is) (arg:Int) (num:Nat) (t:List UInt8) (r:Nat) (w:World) (h:MA w p m cv sv V L C) (hs:L.map (·.1) = m.stack) :
  Calls Tryz.prog 61 #[.pointer (some ⟨p,0,none⟩),iV ⟨⟨18,arg,num,t⟩,r⟩] w (ResP (match popM m 1 with | .error e=>.error e | .ok (_,m)=>.ok m) p m cv sv V C w):=by
 rw [popM_1]
 have HM:=Lib.hid h
 have HS:=Lib.hid hs
 clear h hs
 cases hp1:pop1M m with
 | none =>
  go_enter Tryz.func61,Tryz.ntmps61
  go_upto_region 1 with fail
  have hb1:=blk_new w (iO ⟨⟨18,arg,num,t⟩,r⟩)
  have HB1:Hid (Below w.heap.size w (w.alloc (iO ⟨⟨18,arg,num,t⟩,r⟩))):=(Below.refl _ _).alloc (Nat.le_refl _) _
  have HM1:=Lib.hid (HM.out.below HB1.out)
  change Code.wp _ _ _ _ (w.alloc (iO ⟨⟨18,arg,num,t⟩,r⟩))
  generalize w.alloc (iO ⟨⟨18,arg,num,t⟩,r⟩) = w1 at *
  have x0:=blk_cell (hb1) 0
  have x1:=blk_cell (hb1) 1
  have x2:=blk_cell (hb1) 2
  have x3:=blk_cell (hb1) 3
  have xl:=blk_lt (hb1)
  simp only [List.getElem?_toArray,List.getElem?_cons_zero,List.getElem?_cons_succ] at x0 x1 x2 x3
  have HX1:=Lib.hid hb1
  clear hb1
  go_wp2_with (go_at_call 85;refine (pop1_any p m cv sv V L C none _ HM1.out HS.out hp1).mono ?_;rintro e w5 ⟨rfl,rfl⟩;exact ⟨rfl,ResP.throw (y:=(2202,[])) HM.out HB1.out⟩)
 | some x =>
  obtain ⟨⟨ia,ta,na⟩,s⟩:=x
  go_enter Tryz.func61,Tryz.ntmps61
  go_upto_region 1 with fail
  have hb1:=blk_new w (iO ⟨⟨18,arg,num,t⟩,r⟩)
  have HB1:Hid (Below w.heap.size w (w.alloc (iO ⟨⟨18,arg,num,t⟩,r⟩))):=(Below.refl _ _).alloc (Nat.le_refl _) _
  have HM1:=Lib.hid (HM.out.below HB1.out)
  change Code.wp _ _ _ _ (w.alloc (iO ⟨⟨18,arg,num,t⟩,r⟩))
  generalize w.alloc (iO ⟨⟨18,arg,num,t⟩,r⟩) = w1 at *
  have x0:=blk_cell (hb1) 0
  have x1:=blk_cell (hb1) 1
  have x2:=blk_cell (hb1) 2
  have x3:=blk_cell (hb1) 3
  have xl:=blk_lt (hb1)
  simp only [List.getElem?_toArray,List.getElem?_cons_zero,List.getElem?_cons_succ] at x0 x1 x2 x3
  have HX1:=Lib.hid hb1
  clear hb1
  go_wp2_with (go_at_call 85;refine (pop1_any p m cv sv V L C (some (⟨ia,ta,na⟩,s)) _ HM1.out HS.out hp1).mono ?_;rintro e w5 ⟨g5,c5,ra,sv5,L5,rfl,l5a,l5b,l5c,l5d,k50,k51,k52,hna,hm5,hs5,hn5⟩;have HM5:=Lib.hid hm5;have HS5:=Lib.hid hs5;have HN5:=Lib.hid ((Next.of_below HB1.out).trans hn5);have HNA:=Lib.hid hna;have HX5:=Lib.hid (HM.out.box HX1.out hn5);clear hm5 hs5 hn5 hna)
  go_end0
  exact ⟨rfl,sv5,V,L5,HM5.out,HS5.out,HN5.out⟩
end Go.Proofs.YtmfpmandkhiknaaGreatDoor.vmm
