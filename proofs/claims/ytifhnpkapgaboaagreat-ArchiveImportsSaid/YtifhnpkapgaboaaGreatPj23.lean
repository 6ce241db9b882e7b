/-
  Proved: what the program's field does where an entry is taken away, with all below it. Conditions: as each theorem says.
-/
import Derived.Test.YtifhnpkapgaboaaGreatPj22
set_option linter.unusedVariables false
set_option linter.unusedSimpArgs false
namespace Go.Proofs.YtifhnpkapgaboaaGreat.fld
open Go.RowKit
open heap maps
open path (sv str_size)
open arch (Ent entV PP entO)
set_option maxRecDepth 100000
structure GI (w:World) (f m k r:Nat) (F:Fld) (p:Nm) (D:Nm → Bool) (n:Nat) (W:World):Prop where
 blk:W.heap[f]? = some (.cells #[.map (some m),.map (some k)] 119 (0,0))
 rng:Rng W r m (fun q => !subB p q) (nodeV (F.nodes.filter fun x => !D x.1)) n
 kids:MapB W k (kidV (F.kids.filter fun x => !D x.1))
 tur:Turned [m,k] w W
 sub:∀ q,D q = true → subB p q = true ∧ (getA q F.nodes).isSome = true
theorem filt_self {α:Type} (p:α → Bool) (l:List α) (h:∀ x ∈ l,p x = true):l.filter p = l:=List.filter_eq_self.2 h
theorem getA_mem {α:Type} {l:List (Nm × α)} {x:Nm × α} (h:x ∈ l):(getA x.1 l).isSome = true:=by
 induction l with
 | nil=>cases h
 | cons y r ih =>
  rw [getA]
  by_cases hy:x.1 = y.1
  ·rw [if_pos hy];rfl
  ·rw [if_neg hy]
   rcases List.mem_cons.1 h with rfl | h
   ·exact absurd rfl hy
   ·exact ih h
theorem getA_key {α:Type} {l:List (Nm × α)} {q:Nm} (h:(getA q l).isSome = true):∃ x ∈ l,x.1 = q:=by
 induction l with
 | nil=>cases h
 | cons y r ih =>
  rw [getA] at h
  by_cases hy:q = y.1
  ·exact ⟨y,List.mem_cons_self ..,hy.symm⟩
  ·rw [if_neg hy] at h
   obtain ⟨x,hx,e⟩:=ih h
   exact ⟨x,List.mem_cons_of_mem _ hx,e⟩
theorem blk_old' {w:World} {b:Nat} (h:b < w.heap.size) (o:Obj):(w.alloc o).heap[b]? = w.heap[b]?:=Below.heap_alloc _ _ _ h
theorem tur_new {S S':List Nat} {a w w':World} (h:Turned S a w) (k:Turned S' w w') (hS:∀ x ∈ S',x ∈ S ∨ a.heap.size ≤ x):Turned S a w':=
 ⟨k.os.trans h.os,k.tape.trans h.tape,k.output.trans h.output,Nat.le_trans h.size k.size,fun i hi hn=>(k.block i (Nat.lt_of_lt_of_le hi h.size) (fun hm=>by
  rcases hS i hm with h1 | h1
  ·exact hn h1
  ·omega)).trans (h.block i hi hn)⟩
theorem del_filter {α:Type} (q:Nm) (l:List (Nm × α)) (D:Nm → Bool):delA q (l.filter fun x => !D x.1) = l.filter fun x => !(D x.1 || x.1 == q):=by
 unfold delA
 rw [List.filter_filter]
 congr 1
 funext x
 by_cases h:x.1 = q <;> simp [h]
theorem cut_yes {F:Fld} {p:Nm} {D:Nm → Bool} (hk:0 < kidOf F p) (hs:∀ q,D q = true → subB p q = true ∧ (getA q F.nodes).isSome = true) (ha:∀ x ∈ nodeV (F.nodes.filter fun x => !D x.1),subB p x.1 = false) :
  cutF F p = ⟨F.nodes.filter fun x => !D x.1,F.kids.filter fun x => !D x.1⟩:=by
 have hD:∀ q,D q = (subB p q && (getA q F.nodes).isSome) ∨ (getA q F.nodes).isSome = false ∧ D q = false:=fun q=>by
  cases hq:D q with
  | true=>left;obtain ⟨h1,h2⟩:=hs q hq;rw [h1,h2];rfl
  | false =>
   cases hg:(getA q F.nodes).isSome with
   | false=>right;exact ⟨rfl,rfl⟩
   | true =>
    left
    cases hb:subB p q with
    | false=>rfl
    | true =>
     exfalso
     obtain ⟨x,hx,rfl⟩:∃ x ∈ F.nodes,x.1 = q:=getA_key hg
     have:=ha (x.1,entV x.2) (List.mem_map.2 ⟨x,List.mem_filter.2 ⟨hx,by rw [hq];rfl⟩,rfl⟩)
     simp only at this
     rw [hb] at this
     cases this
 unfold cutF
 rw [if_pos hk]
 congr 1
 ·apply List.filter_congr
  intro x hx
  rcases hD x.1 with h | ⟨h,-⟩
  ·rw [h,getA_mem hx,Bool.and_true]
  ·rw [getA_mem hx] at h;cases h
 ·apply List.filter_congr
  intro x hx
  rcases hD x.1 with h | ⟨h,h2⟩
  ·rw [h]
  ·rw [h,h2,Bool.and_false]
set_option maxHeartbeats 4000000 in
theorem gone_any (w:World) (f m k:Nat) (F:Fld) (p:Nm) (h:FldP w f m k F) (hp:p.length ≤ 1000000000) :
  Calls Tryz.prog 69 #[PP f,sv p] w fun r w'=>r = .returned (.tuple #[]) ∧ FldP w' f m k (goneF F p) ∧ Turned [m,k] w w':=by
 have HF:=Lib.hid h
 have c0:=blk_cell h.blk 0
 have c1:=blk_cell h.blk 1
 have cl:=blk_lt h.blk
 simp only [List.getElem?_toArray,List.getElem?_cons_zero,List.getElem?_cons_succ] at c0 c1
 have hlk:=kid_look h.kids p
 have HFM:=h.fm
 have HFK:=h.fk
 have HMK:=h.ne
 have hml:=h.nodes.lt
 have hkl:=h.kids.lt
 obtain ⟨orng,hrange,hrng0⟩:=Rng.start (P:=Tryz.prog) (t:=116) h.nodes (fun q => !subB p q) Tryz.underlying116
 have HR0:=Lib.hid hrng0
 have hz:=str_size p
 have HP:=Lib.hid (fun (q:Nm) W=>Tryz.strings_HasPrefix ⟨q.toArray⟩ (⟨p.toArray⟩ ++ ⟨#[47]⟩) W)
 replace HP:Hid (∀ (q:Nm) (W:World),Calls Tryz.prog 80 #[.string ⟨q.toArray⟩,.string (⟨p.toArray⟩ ++ ⟨#[47]⟩)] W fun e w'=>e = .returned (.bool (subB p q)) ∧ w' = W):=fun q W=>by
  have:=HP.out q W
  rw [show (⟨p.toArray⟩ ++ ⟨#[47]⟩:ByteArray) = ⟨(p ++ [47]).toArray⟩ from arch.app_str p [47]] at this ⊢
  exact this
 clear h hrng0
 go_enter Tryz.func69,Tryz.ntmps69
 go_upto_if 11 with fail
 go_cut [4,11] from 12 to 34 (fun _ _ wc=>Hid (FldP wc f m k (cutF F p)) ∧ Hid (Turned [m,k] w wc))
 case first =>
  by_cases hk:0 < (getA p F.kids).getD 0
  ·have hb:=decide_eq_true hk
   rw [hb]
   clear hb
   go_wp2_with fail
   go_loopg [4] (nodeV F.nodes).length (fun kk _ wr=>∃ D,Hid (GI w f m k w.heap.size F p D kk wr))
   case atStart =>
    refine ⟨fun _=>false,?_,?_,?_,(Turned.refl _ _).alloc _,fun q hq=>by cases hq⟩
    ·exact blk_old HF.out.blk _
    ·rw [filt_self (fun x => !false) F.nodes (fun _ _=>rfl)];exact HR0.out
    ·rw [filt_self (fun x => !false) F.kids (fun _ _=>rfl)];exact HF.out.kids.kept (blk_old' HF.out.kids.lt _)
   case round =>
    obtain ⟨D,HG⟩:=hrel
    rcases HG.out.rng.next (P:=Tryz.prog) 0 with ⟨hall,hnx⟩ | ⟨q,v,w2,⟨x,hx,rfl⟩,hnx,ht,hpos,hat⟩
    ·go_wp2_with fail
     go_meet
     case rel =>
      have hc:=cut_yes hk HG.out.sub (fun x hx=>by simpa using hall x hx)
      rw [hc]
      exact ⟨⟨HG.out.blk,HG.out.rng.b,HG.out.kids,HF.out.ne⟩,HG.out.tur⟩
    ·obtain ⟨gk,rfl⟩:∃ n,gk = n + 1:=⟨gk - 1,by omega⟩
     rw [Nat.add_sub_cancel] at hat
     obtain ⟨v2,hen⟩:=hat.entry (P:=Tryz.prog)
     have hrb:w.heap.size ≠ m:=by omega
     have hb2:=ht.kept HG.out.blk (by simp;omega)
     have hk2:=HG.out.kids.turned ht (by simp;omega)
     have HT2:Hid (Turned [m,k] w w2):=tur_new HG.out.tur ht (by simp)
     have HKD:=Lib.hid hk2
     have HB2:=Lib.hid hb2
     have HAT:=Lib.hid hat
     have HSUB:=Lib.hid HG.out.sub
     have hxm:(getA x.1 F.nodes).isSome = true:=by
      obtain ⟨y,hy,hyx⟩:=List.mem_map.1 hx
      rw [← hyx]
      exact getA_mem (List.mem_filter.1 hy).1
     have HPQ:=Lib.hid (HP.out x.1)
     clear hat hk2 hb2 ht hpos HG HF HR0 c0 c1 cl
     have c0:=blk_cell HB2.out 0
     have c1:=blk_cell HB2.out 1
     have cl:=blk_lt HB2.out
     simp only [List.getElem?_toArray,List.getElem?_cons_zero,List.getElem?_cons_succ] at c0 c1
     cases hs:subB p x.1 with
     | false =>
      rw [hs] at HPQ
      go_wp2_with fail
      refine (HPQ.out _).mono ?_;rintro e w2 ⟨rfl,rfl⟩
      go_wp2_with fail
      go_roundg gk
      case rel=>exact ⟨D,HB2.out,HAT.out.keep (by rw [hs];rfl),HKD.out,HT2.out,HSUB.out⟩
      case measure=>omega
     | true =>
      rw [hs] at HPQ
      obtain ⟨w3,hd3,hrng3,ht3⟩:=HAT.out.drop (P:=Tryz.prog) Tryz.underlying116 Tryz.underlying9 9 0
      have HB3:=Lib.hid (ht3.kept HB2.out (by simp;exact HFM))
      have HKD3:=Lib.hid (HKD.out.turned ht3 (by simp;exact fun e=>HMK e.symm))
      obtain ⟨w4,hd4,hkd4,ht4⟩:=run_deleteB (P:=Tryz.prog) HKD3.out Tryz.underlying117 Tryz.underlying9 x.1 9 0
      have HB4:=Lib.hid (ht4.kept HB3.out (by simp;exact HFK))
      have HR4:=Lib.hid (hrng3.turned ht4 (by simp;omega) (by simp;exact HMK))
      have HK4:=Lib.hid hkd4
      have HT4:Hid (Turned [m,k] w w4):=(HT2.out.trans (ht3.mono (by simp))).trans (ht4.mono (by simp))
      clear hrng3 ht3 hkd4 ht4
      have c2:=blk_cell HB3.out 1
      have l2:=blk_lt HB3.out
      simp only [List.getElem?_toArray,List.getElem?_cons_zero,List.getElem?_cons_succ] at c2
      go_wp2_with fail
      refine (HPQ.out _).mono ?_;rintro e w2 ⟨rfl,rfl⟩
      go_wp2_with fail
      go_roundg gk
      case rel =>
       refine ⟨fun q=>D q || q == x.1,HB4.out,?_,?_,HT4.out,fun q hq => ?_⟩
       ·have e1:=del_map entV x.1 (F.nodes.filter fun x => !D x.1)
        rw [del_filter] at e1
        have e2:nodeV (F.nodes.filter fun y => !(D y.1 || y.1 == x.1)) = del x.1 (nodeV (F.nodes.filter fun x => !D x.1)):=e1.symm
        rw [e2]
        exact HR4.out
       ·have e1:=del_map (fun z:Int=>Value.int .i64 z) x.1 (F.kids.filter fun x => !D x.1)
        rw [del_filter] at e1
        have e2:kidV (F.kids.filter fun y => !(D y.1 || y.1 == x.1)) = del x.1 (kidV (F.kids.filter fun x => !D x.1)):=e1.symm
        rw [e2]
        exact HK4.out
       ·rcases Bool.or_eq_true _ _ ▸ hq with h1 | h1
        ·exact HSUB.out q h1
        ·rw [beq_iff_eq] at h1
         subst h1
         exact ⟨hs,hxm⟩
      case measure=>omega
  ·have hb:=decide_eq_false hk
   go_wp2_with fail
   go_meet
   case rel =>
    have hc:cutF F p = F:=if_neg (show ¬ 0 < (getA p F.kids).getD 0 by omega)
    rw [hc]
    exact ⟨HF.out,Turned.refl _ _⟩
 case rest =>
  obtain ⟨HC,HT⟩:=hcut
  clear hlk hrange HF HR0 HP c0 c1 cl hz
  generalize hFC:cutF F p = C at *
  have c0:=blk_cell HC.out.blk 0
  have c1:=blk_cell HC.out.blk 1
  have cl:=blk_lt HC.out.blk
  simp only [List.getElem?_toArray,List.getElem?_cons_zero,List.getElem?_cons_succ] at c0 c1
  obtain ⟨w3,hd3,hk3,ht3⟩:=run_deleteB (P:=Tryz.prog) HC.out.kids Tryz.underlying117 Tryz.underlying9 p 9 0
  have HB3:=Lib.hid (ht3.kept HC.out.blk (by simp;exact HFK))
  have HN3:=Lib.hid (HC.out.nodes.turned ht3 (by simp;exact HMK))
  obtain ⟨w4,hd4,hn4,ht4⟩:=run_deleteB (P:=Tryz.prog) HN3.out Tryz.underlying116 Tryz.underlying9 p 9 0
  have hk3':MapB w3 k (kidV (delA p C.kids)):=by
   have e1:=del_map (fun z:Int=>Value.int .i64 z) p C.kids
   have e2:kidV (delA p C.kids) = del p (kidV C.kids):=e1.symm
   rw [e2];exact hk3
  have hn4':MapB w4 m (nodeV (delA p C.nodes)):=by
   have e1:=del_map entV p C.nodes
   have e2:nodeV (delA p C.nodes) = del p (nodeV C.nodes):=e1.symm
   rw [e2];exact hn4
  have HF4:Hid (FldP w4 f m k ⟨delA p C.nodes,delA p C.kids⟩):=⟨ht4.kept HB3.out (by simp;exact HFM),hn4',hk3'.turned ht4 (by simp;exact fun e=>HMK e.symm),HMK⟩
  have HT4:Hid (Turned [m,k] w w4):=(HT.out.trans (ht3.mono (by simp))).trans (ht4.mono (by simp))
  have c2:=blk_cell HB3.out 0
  have l2:=blk_lt HB3.out
  simp only [List.getElem?_toArray,List.getElem?_cons_zero,List.getElem?_cons_succ] at c2
  clear hk3 hk3' hn4 hn4' ht3 ht4 HN3
  go_upto_region 9 with fail
  have c3:=blk_cell HF4.out.blk 1
  have l3:=blk_lt HF4.out.blk
  simp only [List.getElem?_toArray,List.getElem?_cons_zero,List.getElem?_cons_succ] at c3
  clear c0 c1 cl hd3 hd4 HB3 HC HT c2 l2
  have HKD:Hid (MapB w4.drew k (kidV (delA p C.kids))):=HF4.out.kids.turned (Turned.refl [] _).drew (by simp)
  have hlk:=kid_look HKD.out (aboveP p)
  obtain ⟨w5,hrun,hm5,ht5⟩:=run_updateB (P:=Tryz.prog) HKD.out Tryz.underlying117 Tryz.underlying9 (aboveP p) (.int .i64 (IntKind.i64.wrap ((getA (aboveP p) (delA p C.kids)).getD 0 - 1)))
  have HRUN:=Lib.hid hrun
  have HM5:=Lib.hid hm5
  have HT5:=Lib.hid ht5
  have HLK:=Lib.hid hlk
  have HAB:=Lib.hid (above_any p w4.drew hp)
  clear hrun hm5 ht5 hlk
  refine reg.region_eachG (by kernel_rfl) (UX k 8) (fun w'=>True) (fun ri v w'=>match ri with
    | 0=>v = PP f
    | 1=>v = PP f
    | 2=>v = .pointer (some ⟨f,1,none⟩)
    | 3=>v = .map (some k)
    | 4=>v = sv p
    | 5=>v = sv (aboveP p)
    | 6=>v = .int .i64 ((getA (aboveP p) (delA p C.kids)).getD 0)
    | 7=>v = .int .i64 (IntKind.i64.wrap ((getA (aboveP p) (delA p C.kids)).getD 0 - 1))
    | 8=>w' = w5
    | _=>True) (fun rk w'=>match rk with
    | 8=>w' = w4.drew
    | _=>True) ?_ ?_ ?_ ?_ ?_ (by kernel_rfl) ?_ ?_
  ·trivial
  ·
   intro k
   split <;> first | trivial | (rfl)
  ·
   intro j w1 w2 h hx
   trivial
  ·
   intro j i v w1 w2 hij hj hr h hx
   rcases i with _|_|_|_|_|_|_|_|_|i
   ·exact h
   ·exact h
   ·exact h
   ·exact h
   ·exact h
   ·exact h
   ·exact h
   ·exact h
   ·exact (reg.last_no (by kernel_rfl) hij hj hr).elim
   ·trivial
  ·
   intro j k w1 w2 hkj h hx
   split at h <;> first | exact h | exact (hx.same hkj).trans h
  ·
   refine ⟨?_,?_,?_,?_,?_,?_,?_,?_,?_,trivial⟩
   ·-- 0: slot 45:=Op.move t0
    intro ra w' hx hg hs
    have s0:ra.eval (.tmp 0) = PP f:=hs.1
    clear hs
    have hw:=hg 8 rfl
    have c3:w'.cell? ⟨f,1,none⟩ = some (.map (some k)):=by rw [hw];exact c3
    have l3:f < w'.heap.size:=by rw [hw];exact l3
    have HLK:Hid ((Instr.lookup 117 (.map (some k)) (.string ⟨(aboveP p).toArray⟩) false).run Tryz.prog w' = .ok (.int .i64 ((getA (aboveP p) (delA p C.kids)).getD 0)) w'):=by rw [hw];exact HLK
    have HAB:Hid (Calls Tryz.prog 68 #[sv p] w' fun r w''=>r = .returned (sv (aboveP p)) ∧ w' = w''):=by rw [hw];exact HAB
    have HRUN:Hid ((Instr.mapUpdate 117 (.map (some k)) (.string ⟨(aboveP p).toArray⟩) (.int .i64 (IntKind.i64.wrap ((getA (aboveP p) (delA p C.kids)).getD 0 - 1)))).run Tryz.prog w' = .ok () w5):=by rw [hw];exact HRUN
    have HT5:Hid (Turned [k] w' w5):=by rw [hw];exact HT5
    change Oper.wp _ _ ra w' _ _
    refine reg.wp_value (v:=PP f) (w':=w') ?_ ⟨_,rfl,.inl rfl,rfl⟩
    intro ρ rc rf rg re
    rw [re] at s0
    simp [execOp,go_sem,rc,rf,rg,s0] <;> first | omega | rfl | decide
   ·-- 1: slot 46:=Op.nilCheck t45
    intro ra w' hx hg hs
    have s45:ra.eval (.tmp 45) = PP f:=hs.1
    clear hs
    have hw:=hg 8 rfl
    have c3:w'.cell? ⟨f,1,none⟩ = some (.map (some k)):=by rw [hw];exact c3
    have l3:f < w'.heap.size:=by rw [hw];exact l3
    have HLK:Hid ((Instr.lookup 117 (.map (some k)) (.string ⟨(aboveP p).toArray⟩) false).run Tryz.prog w' = .ok (.int .i64 ((getA (aboveP p) (delA p C.kids)).getD 0)) w'):=by rw [hw];exact HLK
    have HAB:Hid (Calls Tryz.prog 68 #[sv p] w' fun r w''=>r = .returned (sv (aboveP p)) ∧ w' = w''):=by rw [hw];exact HAB
    have HRUN:Hid ((Instr.mapUpdate 117 (.map (some k)) (.string ⟨(aboveP p).toArray⟩) (.int .i64 (IntKind.i64.wrap ((getA (aboveP p) (delA p C.kids)).getD 0 - 1)))).run Tryz.prog w' = .ok () w5):=by rw [hw];exact HRUN
    have HT5:Hid (Turned [k] w' w5):=by rw [hw];exact HT5
    change Oper.wp _ _ ra w' _ _
    refine reg.wp_value (v:=PP f) (w':=w') ?_ ⟨_,rfl,.inl rfl,rfl⟩
    intro ρ rc rf rg re
    rw [re] at s45
    simp [execOp,go_sem,rc,rf,rg,s45,l3] <;> first | omega | rfl | decide
   ·-- 2: slot 47:=Op.fieldAddr 119 t46 1
    intro ra w' hx hg hs
    have s46:ra.eval (.tmp 46) = PP f:=hs.1
    clear hs
    have hw:=hg 8 rfl
    have c3:w'.cell? ⟨f,1,none⟩ = some (.map (some k)):=by rw [hw];exact c3
    have l3:f < w'.heap.size:=by rw [hw];exact l3
    have HLK:Hid ((Instr.lookup 117 (.map (some k)) (.string ⟨(aboveP p).toArray⟩) false).run Tryz.prog w' = .ok (.int .i64 ((getA (aboveP p) (delA p C.kids)).getD 0)) w'):=by rw [hw];exact HLK
    have HAB:Hid (Calls Tryz.prog 68 #[sv p] w' fun r w''=>r = .returned (sv (aboveP p)) ∧ w' = w''):=by rw [hw];exact HAB
    have HRUN:Hid ((Instr.mapUpdate 117 (.map (some k)) (.string ⟨(aboveP p).toArray⟩) (.int .i64 (IntKind.i64.wrap ((getA (aboveP p) (delA p C.kids)).getD 0 - 1)))).run Tryz.prog w' = .ok () w5):=by rw [hw];exact HRUN
    have HT5:Hid (Turned [k] w' w5):=by rw [hw];exact HT5
    change Oper.wp _ _ ra w' _ _
    refine reg.wp_value (v:=.pointer (some ⟨f,1,none⟩)) (w':=w') ?_ ⟨_,rfl,.inl rfl,rfl⟩
    intro ρ rc rf rg re
    rw [re] at s46
    simp [execOp,go_sem,rc,rf,rg,s46] <;> first | omega | rfl | decide
   ·-- 3: slot 48:=Op.load 117 t47
    intro ra w' hx hg hs
    have s47:ra.eval (.tmp 47) = .pointer (some ⟨f,1,none⟩):=hs.1
    clear hs
    have hw:=hg 8 rfl
    have c3:w'.cell? ⟨f,1,none⟩ = some (.map (some k)):=by rw [hw];exact c3
    have l3:f < w'.heap.size:=by rw [hw];exact l3
    have HLK:Hid ((Instr.lookup 117 (.map (some k)) (.string ⟨(aboveP p).toArray⟩) false).run Tryz.prog w' = .ok (.int .i64 ((getA (aboveP p) (delA p C.kids)).getD 0)) w'):=by rw [hw];exact HLK
    have HAB:Hid (Calls Tryz.prog 68 #[sv p] w' fun r w''=>r = .returned (sv (aboveP p)) ∧ w' = w''):=by rw [hw];exact HAB
    have HRUN:Hid ((Instr.mapUpdate 117 (.map (some k)) (.string ⟨(aboveP p).toArray⟩) (.int .i64 (IntKind.i64.wrap ((getA (aboveP p) (delA p C.kids)).getD 0 - 1)))).run Tryz.prog w' = .ok () w5):=by rw [hw];exact HRUN
    have HT5:Hid (Turned [k] w' w5):=by rw [hw];exact HT5
    change Oper.wp _ _ ra w' _ _
    refine reg.wp_value (v:=.map (some k)) (w':=w') ?_ ⟨_,rfl,.inl rfl,rfl⟩
    intro ρ rc rf rg re
    rw [re] at s47
    simp [execOp,go_sem,rc,rf,rg,s47,c3] <;> first | omega | rfl | decide
   ·-- 4: slot 49:=Op.move t1
    intro ra w' hx hg hs
    have s1:ra.eval (.tmp 1) = sv p:=hs.1
    clear hs
    have hw:=hg 8 rfl
    have c3:w'.cell? ⟨f,1,none⟩ = some (.map (some k)):=by rw [hw];exact c3
    have l3:f < w'.heap.size:=by rw [hw];exact l3
    have HLK:Hid ((Instr.lookup 117 (.map (some k)) (.string ⟨(aboveP p).toArray⟩) false).run Tryz.prog w' = .ok (.int .i64 ((getA (aboveP p) (delA p C.kids)).getD 0)) w'):=by rw [hw];exact HLK
    have HAB:Hid (Calls Tryz.prog 68 #[sv p] w' fun r w''=>r = .returned (sv (aboveP p)) ∧ w' = w''):=by rw [hw];exact HAB
    have HRUN:Hid ((Instr.mapUpdate 117 (.map (some k)) (.string ⟨(aboveP p).toArray⟩) (.int .i64 (IntKind.i64.wrap ((getA (aboveP p) (delA p C.kids)).getD 0 - 1)))).run Tryz.prog w' = .ok () w5):=by rw [hw];exact HRUN
    have HT5:Hid (Turned [k] w' w5):=by rw [hw];exact HT5
    change Oper.wp _ _ ra w' _ _
    refine reg.wp_value (v:=sv p) (w':=w') ?_ ⟨_,rfl,.inl rfl,rfl⟩
    intro ρ rc rf rg re
    rw [re] at s1
    simp [execOp,go_sem,rc,rf,rg,s1] <;> first | omega | rfl | decide
   ·-- 5: slot 50:=Op.call { value (Operand.func 68),args := #[t49],argTypes := #[9] }
    intro ra w' hx hg hs
    have s49:ra.eval (.tmp 49) = sv p:=hs.1
    clear hs
    have hw:=hg 8 rfl
    have c3:w'.cell? ⟨f,1,none⟩ = some (.map (some k)):=by rw [hw];exact c3
    have l3:f < w'.heap.size:=by rw [hw];exact l3
    have HLK:Hid ((Instr.lookup 117 (.map (some k)) (.string ⟨(aboveP p).toArray⟩) false).run Tryz.prog w' = .ok (.int .i64 ((getA (aboveP p) (delA p C.kids)).getD 0)) w'):=by rw [hw];exact HLK
    have HAB:Hid (Calls Tryz.prog 68 #[sv p] w' fun r w''=>r = .returned (sv (aboveP p)) ∧ w' = w''):=by rw [hw];exact HAB
    have HRUN:Hid ((Instr.mapUpdate 117 (.map (some k)) (.string ⟨(aboveP p).toArray⟩) (.int .i64 (IntKind.i64.wrap ((getA (aboveP p) (delA p C.kids)).getD 0 - 1)))).run Tryz.prog w' = .ok () w5):=by rw [hw];exact HRUN
    have HT5:Hid (Turned [k] w' w5):=by rw [hw];exact HT5
    change Oper.wp _ _ ra w' _ _
    refine reg.wp_call (f:=68) (args := #[sv p]) (w':=w') ?_ ?_
    ·intro ρ rc rf rg re
     rw [re] at s49
     simp [execOp,go_sem,rc,rf,rg,s49] <;> first | omega | rfl | decide
    refine HAB.out.mono ?_
    rintro r w'' ⟨rfl,rfl⟩
    exact ⟨_,rfl,_,rfl,.inl rfl,rfl⟩
   ·-- 6: slot 51:=Op.lookup 117 t48 t50 false
    intro ra w' hx hg hs
    have s48:ra.eval (.tmp 48) = .map (some k):=hs.1
    have s50:ra.eval (.tmp 50) = sv (aboveP p):=hs.2.1
    clear hs
    have hw:=hg 8 rfl
    have c3:w'.cell? ⟨f,1,none⟩ = some (.map (some k)):=by rw [hw];exact c3
    have l3:f < w'.heap.size:=by rw [hw];exact l3
    have HLK:Hid ((Instr.lookup 117 (.map (some k)) (.string ⟨(aboveP p).toArray⟩) false).run Tryz.prog w' = .ok (.int .i64 ((getA (aboveP p) (delA p C.kids)).getD 0)) w'):=by rw [hw];exact HLK
    have HAB:Hid (Calls Tryz.prog 68 #[sv p] w' fun r w''=>r = .returned (sv (aboveP p)) ∧ w' = w''):=by rw [hw];exact HAB
    have HRUN:Hid ((Instr.mapUpdate 117 (.map (some k)) (.string ⟨(aboveP p).toArray⟩) (.int .i64 (IntKind.i64.wrap ((getA (aboveP p) (delA p C.kids)).getD 0 - 1)))).run Tryz.prog w' = .ok () w5):=by rw [hw];exact HRUN
    have HT5:Hid (Turned [k] w' w5):=by rw [hw];exact HT5
    change Oper.wp _ _ ra w' _ _
    refine reg.wp_value (v:=.int .i64 ((getA (aboveP p) (delA p C.kids)).getD 0)) (w':=w') ?_ ⟨_,rfl,.inl rfl,rfl⟩
    intro ρ rc rf rg re
    rw [re] at s48 s50
    simp [execOp,go_sem,rc,rf,rg,s48,s50,HLK.out] <;> first | omega | rfl | decide
   ·-- 7: slot 52:=Op.binOp BinOp.sub 3 t51 (const (1:i64)) 3
    intro ra w' hx hg hs
    have s51:ra.eval (.tmp 51) = .int .i64 ((getA (aboveP p) (delA p C.kids)).getD 0):=hs.1
    clear hs
    have hw:=hg 8 rfl
    have c3:w'.cell? ⟨f,1,none⟩ = some (.map (some k)):=by rw [hw];exact c3
    have l3:f < w'.heap.size:=by rw [hw];exact l3
    have HLK:Hid ((Instr.lookup 117 (.map (some k)) (.string ⟨(aboveP p).toArray⟩) false).run Tryz.prog w' = .ok (.int .i64 ((getA (aboveP p) (delA p C.kids)).getD 0)) w'):=by rw [hw];exact HLK
    have HAB:Hid (Calls Tryz.prog 68 #[sv p] w' fun r w''=>r = .returned (sv (aboveP p)) ∧ w' = w''):=by rw [hw];exact HAB
    have HRUN:Hid ((Instr.mapUpdate 117 (.map (some k)) (.string ⟨(aboveP p).toArray⟩) (.int .i64 (IntKind.i64.wrap ((getA (aboveP p) (delA p C.kids)).getD 0 - 1)))).run Tryz.prog w' = .ok () w5):=by rw [hw];exact HRUN
    have HT5:Hid (Turned [k] w' w5):=by rw [hw];exact HT5
    change Oper.wp _ _ ra w' _ _
    refine reg.wp_value (v:=.int .i64 (IntKind.i64.wrap ((getA (aboveP p) (delA p C.kids)).getD 0 - 1))) (w':=w') ?_ ⟨_,rfl,.inl rfl,rfl⟩
    intro ρ rc rf rg re
    rw [re] at s51
    simp [execOp,go_sem,rc,rf,rg,s51] <;> first | omega | rfl | decide
   ·-- 8: slot None:=Op.mapUpdate 117 t48 t50 t52
    intro ra w' hx hg hs
    have s48:ra.eval (.tmp 48) = .map (some k):=hs.1
    have s50:ra.eval (.tmp 50) = sv (aboveP p):=hs.2.1
    have s52:ra.eval (.tmp 52) = .int .i64 (IntKind.i64.wrap ((getA (aboveP p) (delA p C.kids)).getD 0 - 1)):=hs.2.2.1
    clear hs
    have hw:=hg 8 rfl
    have c3:w'.cell? ⟨f,1,none⟩ = some (.map (some k)):=by rw [hw];exact c3
    have l3:f < w'.heap.size:=by rw [hw];exact l3
    have HLK:Hid ((Instr.lookup 117 (.map (some k)) (.string ⟨(aboveP p).toArray⟩) false).run Tryz.prog w' = .ok (.int .i64 ((getA (aboveP p) (delA p C.kids)).getD 0)) w'):=by rw [hw];exact HLK
    have HAB:Hid (Calls Tryz.prog 68 #[sv p] w' fun r w''=>r = .returned (sv (aboveP p)) ∧ w' = w''):=by rw [hw];exact HAB
    have HRUN:Hid ((Instr.mapUpdate 117 (.map (some k)) (.string ⟨(aboveP p).toArray⟩) (.int .i64 (IntKind.i64.wrap ((getA (aboveP p) (delA p C.kids)).getD 0 - 1)))).run Tryz.prog w' = .ok () w5):=by rw [hw];exact HRUN
    have HT5:Hid (Turned [k] w' w5):=by rw [hw];exact HT5
    change Oper.wp _ _ ra w' _ _
    refine reg.wp_skip (w':=w5) (runs_update rfl s48 s50 s52 HRUN.out) ⟨_,rfl,.inr ⟨rfl,HT5.out⟩,rfl⟩
  intro rV w6 hx hf
  have ve0:rV 0 = PP f:=hf 0 (by decide)
  have ve1:rV 1 = PP f:=hf 1 (by decide)
  have ve2:rV 2 = .pointer (some ⟨f,1,none⟩):=hf 2 (by decide)
  have ve3:rV 3 = .map (some k):=hf 3 (by decide)
  have ve4:rV 4 = sv p:=hf 4 (by decide)
  have ve5:rV 5 = sv (aboveP p):=hf 5 (by decide)
  have ve6:rV 6 = .int .i64 ((getA (aboveP p) (delA p C.kids)).getD 0):=hf 6 (by decide)
  have ve7:rV 7 = .int .i64 (IntKind.i64.wrap ((getA (aboveP p) (delA p C.kids)).getD 0 - 1)):=hf 7 (by decide)
  have ve8:=hf 8 (by decide)
  clear hf
  simp only [List.zipIdx_cons,List.zipIdx_nil,List.foldl_cons,List.foldl_nil,Act.put,Nat.reduceAdd,List.setIfInBounds_toArray,List.set_cons_succ,List.set_cons_zero,ve0,ve1,ve2,ve3,ve4,ve5,ve6,ve7]
  clear ve0 ve1 ve2 ve3 ve4 ve5 ve6 ve7
  generalize rV 8 = v8 at *
  clear rV
  subst ve8
  have hkd:kidV (updA (aboveP p) (IntKind.i64.wrap ((getA (aboveP p) (delA p C.kids)).getD 0 - 1)) (delA p C.kids)) = upd (aboveP p) (.int .i64 (IntKind.i64.wrap ((getA (aboveP p) (delA p C.kids)).getD 0 - 1))) (kidV (delA p C.kids)):=(upd_map (fun z:Int=>Value.int .i64 z) (aboveP p) _ _).symm
  have hT3:Turned [k] w4 w6:=((Turned.refl [k] w4).drew).trans HT5.out
  have hg:goneF F p = ⟨delA p C.nodes,updA (aboveP p) (IntKind.i64.wrap ((getA (aboveP p) (delA p C.kids)).getD 0 - 1)) (delA p C.kids)⟩:=by rw [← hFC];rfl
  have HF6:Hid (FldP w6 f m k (goneF F p)):=⟨hT3.kept HF4.out.blk (by simp;exact HFK),by rw [hg];exact HF4.out.nodes.turned hT3 (by simp;exact HMK),by rw [hg,hkd];exact HM5.out,HMK⟩
  have HT6:Hid (Turned [m,k] w w6):=HT4.out.trans (hT3.mono (by simp))
  clear hT3 hkd hg
  go_wp2_with fail
  go_end0
  exact ⟨rfl,HF6.out,HT6.out⟩
end Go.Proofs.YtifhnpkapgaboaaGreat.fld
