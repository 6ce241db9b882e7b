/-
  Proved: what SpoilEntries and SpoilImage leave. Conditions: as each theorem says.
  Proved: what the statements' functions on images do: copied, compared. Conditions: as each theorem says.
-/
import Derived.Test.YtifhnpkapgaboaaGreatPj42
import Derived.Test.YtifhnpkapgaboaaGreatPj23
set_option linter.unusedVariables false
set_option linter.unusedSimpArgs false
namespace Go.Proofs.YtifhnpkapgaboaaGreat.arch
open Go.RowKit
open heap
open path (sv str_size)
open fld (tur_new)
set_option maxRecDepth 100000
def WRow (w:World) (v:Value) (n B:Nat):Prop:=(∃ A c,v = .slice A 0 c ∧ n = 0 ∧ c ≤ 9223372036854775807) ∨ ∃ g c cur,v = .slice (some ⟨g,0,none⟩) n c ∧ n ≤ c ∧ c ≤ 9223372036854775807 ∧ w.heap[g]? = some (.cells cur 58 (0,0)) ∧ ∀ i,i < n → ∃ l:Nm,cur[i * 4]? = some (sv l) ∧ l.length ≤ B
def SB (w w':World) (B:Nat):Prop:=∀ (g:Nat) (cur:Array Value),w.heap[g]? = some (.cells cur 58 (0,0)) → ∃ cur',w'.heap[g]? = some (.cells cur' 58 (0,0)) ∧ ∀ (i:Nat) (l:Nm),cur[i * 4]? = some (sv l) → l.length ≤ B → ∃ l':Nm,cur'[i * 4]? = some (sv l') ∧ l'.length ≤ B + 1
theorem WRow.sb {w w':World} {v:Value} {n B:Nat} (h:WRow w v n B) (hs:SB w w' B):WRow w' v n (B + 1):=by
 rcases h with h | ⟨g,c,cur,hv,h1,h2,h3,h4⟩
 ·exact .inl h
 ·obtain ⟨cur',k1,k2⟩:=hs g cur h3
  refine .inr ⟨g,c,cur',hv,h1,h2,k1,fun i hi => ?_⟩
  obtain ⟨l,m1,m2⟩:=h4 i hi
  exact k2 i l m1 m2
theorem ERow.wrow {w:World} {base B:Nat} {v:Value} {es:List Ent} (h:ERow w base v es) (hp:∀ e ∈ es,e.path.length ≤ B):WRow w v es.length B:=by
 have hcl := @World.ownsRow.cells _ _ _ _ _ _ _ h
 obtain ⟨hl,⟨hv,h0⟩ | ⟨g,c,cur,hv,h2,h3,h4,h5,_⟩⟩:=h
 ·exact .inl ⟨none,0,by rw [hv],h0,by omega⟩
 ·refine .inr ⟨g,c,cur,hv,h4,by unfold maxLen at h5;omega,h3,fun i hi => ?_⟩
  have hg:v.ownBlock = some g:=by rw [hv];rfl
  have he:es[i]? = some es[i]:=List.getElem?_eq_getElem hi
  have k0:=hcl hg _ _ (rowE_get es i _ he).1
  rw [eadd0,blk_cell h3] at k0
  exact ⟨_,k0,hp _ (List.mem_of_getElem? he)⟩
set_option maxHeartbeats 1600000 in
theorem SpoilEntries_any (v:Value) (n B:Nat) (w:World) (h:WRow w v n B) (hB:B ≤ 1000000000) :
  Calls Tryz.prog 21 #[v] w fun e w'=>e = .returned (.tuple #[]) ∧ SB w w' B ∧ Turned v.ownBlock.toList w w':=by
 rcases h with ⟨A,c,rfl,rfl,hc⟩ | ⟨g,c,cur,rfl,h1,h2,h3,h4⟩
 ·go_enter Tryz.func21,Tryz.ntmps21
  go_wp2_with fail
  go_loopg [2] 0 (fun kk v2 wr=>v2 = .int .i64 0 ∧ wr = w)
  case atStart=>exact ⟨rfl,rfl⟩
  case round =>
   obtain ⟨rfl,rfl⟩:=hrel
   go_wp2_with fail
   go_end0
   exact ⟨rfl,fun g cur hg=>⟨cur,hg,fun i l hl hb=>⟨l,hl,by omega⟩⟩,Turned.refl _ _⟩
 ·have H3:=Lib.hid h3
  have H4:=Lib.hid h4
  clear h3 h4
  go_enter Tryz.func21,Tryz.ntmps21
  go_wp2_with fail
  go_loopg [2] n (fun kk v2 wr=>∃ k:Nat,k + kk = n ∧ v2 = .int .i64 k ∧ Hid (Turned [g] w wr) ∧ Hid (∃ cur',wr.heap[g]? = some (.cells cur' 58 (0,0)) ∧ ∀ (i:Nat) (l:Nm),cur[i * 4]? = some (sv l) → l.length ≤ B → ∃ l':Nm,cur'[i * 4]? = some (sv l') ∧ l'.length ≤ B + 1 ∧ (k ≤ i → l' = l)))
  case atStart=>exact ⟨0,by omega,rfl,Turned.refl _ _,⟨cur,H3.out,fun i l hl hb=>⟨l,hl,by omega,fun _=>rfl⟩⟩⟩
  case round =>
   obtain ⟨k,hkk,rfl,HT,HC⟩:=hrel
   by_cases hlt:k < n
   ·cases gk with
    | zero=>omega
    | succ gk =>
    obtain ⟨cs,hcs,hci⟩:=HC.out
    obtain ⟨l,hl,hlb⟩:=H4.out k hlt
    obtain ⟨l',hl',hlb',he⟩:=hci k l hl hlb
    obtain rfl:=he (Nat.le_refl _)
    have hkI:(k:Int) < (n:Int):=by omega
    have x0:=blk_cell hcs (k * 4)
    rw [hl'] at x0
    have f0:wr.frozen? ⟨g,k * 4,none⟩ = false:=blk_free hcs _
    have xl:=blk_lt hcs
    have zp:=str_size l'
    have hjn:(⟨#[126]⟩:ByteArray) ++ ⟨l'.toArray⟩ = ⟨((126 :: l':Nm)).toArray⟩:=by
     have:=app_str [126] l'
     simpa using this
    have HN:Hid (∃ cur',(wr.setCell ⟨g,k * 4,none⟩ (sv (126 :: l'))).heap[g]? = some (.cells cur' 58 (0,0)) ∧ ∀ (i:Nat) (l:Nm),cur[i * 4]? = some (sv l) → l.length ≤ B → ∃ l':Nm,cur'[i * 4]? = some (sv l') ∧ l'.length ≤ B + 1 ∧ (k + 1 ≤ i → l' = l)):=by
     refine ⟨_,blk_set hcs _ _,fun i y hy hyb => ?_⟩
     obtain ⟨y',h5,h6,h7⟩:=hci i y hy hyb
     rw [Array.getElem?_setIfInBounds]
     by_cases e:k * 4 = i * 4
     ·have hks:k * 4 < cs.size:=(Array.getElem?_eq_some_iff.1 hl').1
      have hki:k = i:=by omega
      rw [if_pos e,if_pos hks]
      exact ⟨_,rfl,by simp only [List.length_cons];omega,fun h9=>by omega⟩
     ·rw [if_neg e]
      exact ⟨y',h5,h6,fun h9=>h7 (by omega)⟩
    have HTN:Hid (Turned [g] w (wr.setCell ⟨g,k * 4,none⟩ (sv (126 :: l')))):=HT.out.setCell (by simp) _
    clear hcs hci hl hl' HT HC he
    generalize (126 :: l':Nm) = p2 at *
    go_wp2_with fail
    go_roundg gk
    case rel=>exact ⟨k + 1,by omega,by go_num,HTN,HN⟩
    case measure=>omega
   ·have hkn:k = n:=by omega
    subst hkn
    have hn2:¬ (k:Int) < (k:Int):=by omega
    go_wp2_with fail
    go_end0
    refine ⟨rfl,fun g' cur' hg' => ?_,HT.out⟩
    by_cases e:g' = g
    ·subst e
     have h3:=H3.out
     rw [h3] at hg'
     simp at hg'
     subst hg'
     obtain ⟨cs,k1,k2⟩:=HC.out
     exact ⟨cs,k1,fun i l hl hb=>by obtain ⟨l',m1,m2,-⟩:=k2 i l hl hb;exact ⟨l',m1,m2⟩⟩
    ·exact ⟨cur',HT.out.kept hg' (by simpa using e),fun i l hl hb=>⟨l,hl,by omega⟩⟩
set_option maxHeartbeats 1600000 in
theorem SpoilImage_any (ls:List (List Ent)) (v:Value) (vs:List Value) (base:Nat) (w:World) (h:LRow w base v ls vs) (hn:ls.length ≤ 1000000) (hp:∀ es ∈ ls,∀ e ∈ es,e.path.length ≤ 2000000) :
  Calls Tryz.prog 16 #[.agg #[v]] w fun e w'=>e = .returned (.tuple #[]) ∧ Turned (vs.flatMap fun u=>u.ownBlock.toList) w w':=by
 obtain ⟨A,gv,c,rfl,hlc,hcm,hA,hcl⟩:=h.slice
 have HX:=Lib.hid (blk_new w (.cells #[.slice A ls.length c] 24 (0,0)))
 have HB:Hid (Below w.heap.size w (w.alloc (.cells #[.slice A ls.length c] 24 (0,0)))):=(Below.refl _ _).alloc (Nat.le_refl _) _
 have HL:=Lib.hid h
 have HP:=Lib.hid hp
 have HCL:=Lib.hid hcl
 have HA:=Lib.hid hA
 have hvl:=h.len
 clear h hp hcl hA
 have HW0:Hid (∀ (i:Nat) (u:Value) (es:List Ent),vs[i]? = some u → ls[i]? = some es → WRow (w.alloc (.cells #[.slice A ls.length c] 24 (0,0))) u es.length 2000000):=fun i u es hu he=>by
  obtain ⟨u',h1,h2⟩:=HL.out.inn i es he
  rw [hu] at h1;cases h1
  exact (h2.below HB.out).wrow (HP.out es (List.mem_of_getElem? he))
 have HTY:Hid (∀ u ∈ vs,∀ g ∈ u.ownBlock.toList,g < w.heap.size ∧ ∃ cur,w.heap[g]? = some (.cells cur 58 (0,0))):=fun u hu g hg=>by
  obtain ⟨es,he⟩:=HL.out.mem hu
  obtain ⟨-,h2,cur,h3⟩:=own_blk he g hg
  exact ⟨h2,cur,h3⟩
 have HGV:Hid (ls ≠ [] → ∃ cur,w.heap[gv]? = some (.cells cur 44 (0,0))):=fun h0=>by
  obtain ⟨hA,-⟩:=HA.out h0
  obtain ⟨-,-,cur,h3⟩:=own_blk HL.out.row gv (by rw [hA];simp [Value.ownBlock])
  exact ⟨cur,h3⟩
 go_enter Tryz.func16,Tryz.ntmps16
 go_wp2_with fail
 change Code.wp _ _ _ _ (w.alloc (.cells #[.slice A ls.length c] 24 (0,0)))
 generalize (w.alloc (.cells #[.slice A ls.length c] 24 (0,0))) = w1 at *
 go_loopg [2] ls.length (fun kk v2 wr=>∃ i:Nat,i + kk = ls.length ∧ v2 = .int .i64 i ∧ Hid (wr.heap[w.heap.size]? = some (.cells #[.slice A ls.length c] 24 (0,0))) ∧ Hid (Turned (vs.flatMap fun u=>u.ownBlock.toList) w wr) ∧ Hid (∀ (j:Nat) (u:Value) (es:List Ent),vs[j]? = some u → ls[j]? = some es → WRow wr u es.length (2000000 + i)))
 case atStart=>exact ⟨0,by omega,rfl,HX,Turned.of_below HB.out,HW0⟩
 case round =>
  clear HX HB HW0
  obtain ⟨i,hik,rfl,HX,HT,HW⟩:=hrel
  have q0:=blk_cell HX.out 0
  have ql:=blk_lt HX.out
  simp only [List.getElem?_toArray,List.getElem?_cons_zero] at q0
  by_cases hlt:i < ls.length
  ·cases gk with
   | zero=>omega
   | succ gk =>
   have hltI:(i:Int) < (ls.length:Int):=by omega
   obtain ⟨es,he⟩:∃ e,ls[i]? = some e:=⟨_,List.getElem?_eq_getElem hlt⟩
   obtain ⟨u,hu⟩:∃ u,vs[i]? = some u:=⟨_,List.getElem?_eq_getElem (by omega)⟩
   have hne:ls ≠ []:=fun e=>by rw [e] at hlt;simp at hlt
   obtain ⟨rfl,-⟩:=HA.out hne
   have hwr:=HW.out i u es hu he
   have hum:∀ g ∈ u.ownBlock.toList,g ∈ vs.flatMap fun u=>u.ownBlock.toList:=fun g hg=>List.mem_flatMap.2 ⟨u,List.mem_of_getElem? hu,hg⟩
   have hun:∀ g ∈ u.ownBlock.toList,g < w.heap.size:=fun g hg=>(HTY.out u (List.mem_of_getElem? hu) g hg).1
   have x0:=HT.out.cell (HCL.out i u hu) (fun hm=>by
    obtain ⟨u2,hu2,hg2⟩:=List.mem_flatMap.1 hm
    obtain ⟨-,c1,k1⟩:=HTY.out u2 hu2 _ hg2
    obtain ⟨c2,k2⟩:=HGV.out hne
    rw [k1] at k2
    simp at k2)
   have HSP:=Lib.hid (SpoilEntries_any u es.length (2000000 + i) wr hwr (by omega))
   have HUM:=Lib.hid hum
   have HUN:=Lib.hid hun
   clear hum hun hu he hwr hne
   go_wp2_with fail
   refine HSP.out.mono ?_;rintro e w2 ⟨rfl,hsb,ht⟩
   have HX2:=Lib.hid (ht.kept HX.out (fun hm=>by have:=HUN.out _ hm;omega))
   have HT2:Hid (Turned (vs.flatMap fun u=>u.ownBlock.toList) w w2):=tur_new HT.out ht (fun g hg=>.inl (HUM.out g hg))
   have HW2:Hid (∀ (j:Nat) (u:Value) (es:List Ent),vs[j]? = some u → ls[j]? = some es → WRow w2 u es.length (2000000 + (i + 1))):=fun j u es hu he=>(HW.out j u es hu he).sb hsb
   clear hsb ht HSP HX HT HW HUM HUN q0 ql x0
   go_wp2_with fail
   go_roundg gk
   case rel=>exact ⟨i + 1,by omega,by go_num,HX2,HT2,HW2⟩
   case measure=>omega
  ·have hil:i = ls.length:=by omega
   subst hil
   have hn2:¬ (ls.length:Int) < (ls.length:Int):=by omega
   go_wp2_with fail
   go_end0
   exact ⟨rfl,HT.out⟩
end Go.Proofs.YtifhnpkapgaboaaGreat.arch
namespace Go.Proofs.YtifhnpkapgaboaaGreat.arch
open Go.RowKit
open heap
open path (sv str_size)
set_option maxRecDepth 100000
theorem SameEntries_two (es:List Ent) (A B:Option Addr) (c d:Nat) (w:World) (h:EIn w A c es) (hg:EIn w B d es) (hc:c ≤ 9223372036854775807) (hd:d ≤ 9223372036854775807) :
  Calls Tryz.prog 57 #[.slice A es.length c,.slice B es.length d] w fun e w'=>e = .returned (.bool true) ∧ Below w.heap.size w w':=by
 have H:=Lib.hid h
 have HG:=Lib.hid hg
 have hcl:=h.1
 have hdl:=hg.1
 clear h hg
 go_enter Tryz.func57,Tryz.ntmps57
 go_wp2_with fail
 go_loopg [5] es.length (fun kk v3 wr=>∃ i:Nat,i + kk = es.length ∧ v3 = .int .i64 i ∧ Hid (Below w.heap.size w wr))
 case atStart=>exact ⟨0,by omega,rfl,Below.refl _ _⟩
 case round =>
  obtain ⟨i,hik,rfl,HB⟩:=hrel
  by_cases hlt:i < es.length
  ·cases gk with
   | zero=>omega
   | succ gk =>
   have hltI:(i:Int) < (es.length:Int):=by omega
   obtain ⟨e,he⟩:∃ e,es[i]? = some e:=⟨_,List.getElem?_eq_getElem hlt⟩
   rcases H.out.2 with rfl | ⟨b,o,rfl,hb⟩
   ·simp at hlt
   rcases HG.out.2 with rfl | ⟨g,p,rfl,hg⟩
   ·simp at hlt
   obtain ⟨x0,x1,x2,x3⟩:=hb.below HB.out i e he
   obtain ⟨y0,y1,y2,y3⟩:=hg.below HB.out i e he
   clear hb hg he
   go_wp2_with fail
   refine reg.region_each (by kernel_rfl) reg.Ext (fun ri v w'=>match ri with
     | 0=>v = .slice (some ⟨b,o,none⟩) es.length c
     | 1=>v = .int .i64 i
     | 2=>v = .pointer (some ⟨b,o + i * 4,none⟩)
     | 3=>v = entV e
     | 4=>v = .slice (some ⟨g,p,none⟩) es.length d
     | 5=>v = .int .i64 i
     | 6=>v = .pointer (some ⟨g,p + i * 4,none⟩)
     | 7=>v = entV e
     | 8=>v = .bool false
     | _=>True) reg.Ext.refl reg.Ext.trans ?_ (by kernel_rfl) ?_ ?_
   ·
    intro i v w1 w2 h hx
    rcases i with _|_|_|_|_|_|_|_|_|i
    ·exact h
    ·exact h
    ·exact h
    ·exact h
    ·exact h
    ·exact h
    ·exact h
    ·exact h
    ·exact h
    ·trivial
   ·
    refine ⟨?_,?_,?_,?_,?_,?_,?_,?_,?_,trivial⟩
    ·-- 0: slot 17:=Op.move t0
     intro ra w' hx hs
     have s0:ra.eval (.tmp 0) = .slice (some ⟨b,o,none⟩) es.length c:=hs.1
     clear hs
     have x0:=hx.cell x0
     have x1:=hx.cell x1
     have x2:=hx.cell x2
     have x3:=hx.cell x3
     have y0:=hx.cell y0
     have y1:=hx.cell y1
     have y2:=hx.cell y2
     have y3:=hx.cell y3
     change Oper.wp _ _ ra w' _ _
     refine reg.wp_value (v:=.slice (some ⟨b,o,none⟩) es.length c) (w':=w') ?_ ⟨_,rfl,reg.Ext.refl _,rfl⟩
     intro ρ rc rf rg re
     rw [re] at s0
     simp [execOp,go_sem,rc,rf,rg,s0] <;> first | omega | rfl | decide
    ·-- 1: slot 18:=Op.move t5
     intro ra w' hx hs
     have s5:ra.eval (.tmp 5) = .int .i64 i:=hs.1
     clear hs
     have x0:=hx.cell x0
     have x1:=hx.cell x1
     have x2:=hx.cell x2
     have x3:=hx.cell x3
     have y0:=hx.cell y0
     have y1:=hx.cell y1
     have y2:=hx.cell y2
     have y3:=hx.cell y3
     change Oper.wp _ _ ra w' _ _
     refine reg.wp_value (v:=.int .i64 i) (w':=w') ?_ ⟨_,rfl,reg.Ext.refl _,rfl⟩
     intro ρ rc rf rg re
     rw [re] at s5
     simp [execOp,go_sem,rc,rf,rg,s5] <;> first | omega | rfl | decide
    ·-- 2: slot 19:=Op.indexAddr 41 t17 t18
     intro ra w' hx hs
     have s17:ra.eval (.tmp 17) = .slice (some ⟨b,o,none⟩) es.length c:=hs.1
     have s18:ra.eval (.tmp 18) = .int .i64 i:=hs.2.1
     clear hs
     have x0:=hx.cell x0
     have x1:=hx.cell x1
     have x2:=hx.cell x2
     have x3:=hx.cell x3
     have y0:=hx.cell y0
     have y1:=hx.cell y1
     have y2:=hx.cell y2
     have y3:=hx.cell y3
     change Oper.wp _ _ ra w' _ _
     refine reg.wp_value (v:=.pointer (some ⟨b,o + i * 4,none⟩)) (w':=w') ?_ ⟨_,rfl,reg.Ext.refl _,rfl⟩
     intro ρ rc rf rg re
     rw [re] at s17 s18
     simp [execOp,go_sem,rc,rf,rg,s17,s18,hltI] <;> first | omega | rfl | decide
    ·-- 3: slot 20:=Op.load 58 t19
     intro ra w' hx hs
     have s19:ra.eval (.tmp 19) = .pointer (some ⟨b,o + i * 4,none⟩):=hs.1
     clear hs
     have x0:=hx.cell x0
     have x1:=hx.cell x1
     have x2:=hx.cell x2
     have x3:=hx.cell x3
     have y0:=hx.cell y0
     have y1:=hx.cell y1
     have y2:=hx.cell y2
     have y3:=hx.cell y3
     change Oper.wp _ _ ra w' _ _
     refine reg.wp_value (v:=entV e) (w':=w') ?_ ⟨_,rfl,reg.Ext.refl _,rfl⟩
     intro ρ rc rf rg re
     rw [re] at s19
     simp [execOp,go_sem,rc,rf,rg,s19,x0,x1,x2,x3] <;> first | omega | rfl | decide
    ·-- 4: slot 21:=Op.move t1
     intro ra w' hx hs
     have s1:ra.eval (.tmp 1) = .slice (some ⟨g,p,none⟩) es.length d:=hs.1
     clear hs
     have x0:=hx.cell x0
     have x1:=hx.cell x1
     have x2:=hx.cell x2
     have x3:=hx.cell x3
     have y0:=hx.cell y0
     have y1:=hx.cell y1
     have y2:=hx.cell y2
     have y3:=hx.cell y3
     change Oper.wp _ _ ra w' _ _
     refine reg.wp_value (v:=.slice (some ⟨g,p,none⟩) es.length d) (w':=w') ?_ ⟨_,rfl,reg.Ext.refl _,rfl⟩
     intro ρ rc rf rg re
     rw [re] at s1
     simp [execOp,go_sem,rc,rf,rg,s1] <;> first | omega | rfl | decide
    ·-- 5: slot 22:=Op.move t5
     intro ra w' hx hs
     have s5:ra.eval (.tmp 5) = .int .i64 i:=hs.1
     clear hs
     have x0:=hx.cell x0
     have x1:=hx.cell x1
     have x2:=hx.cell x2
     have x3:=hx.cell x3
     have y0:=hx.cell y0
     have y1:=hx.cell y1
     have y2:=hx.cell y2
     have y3:=hx.cell y3
     change Oper.wp _ _ ra w' _ _
     refine reg.wp_value (v:=.int .i64 i) (w':=w') ?_ ⟨_,rfl,reg.Ext.refl _,rfl⟩
     intro ρ rc rf rg re
     rw [re] at s5
     simp [execOp,go_sem,rc,rf,rg,s5] <;> first | omega | rfl | decide
    ·-- 6: slot 23:=Op.indexAddr 41 t21 t22
     intro ra w' hx hs
     have s21:ra.eval (.tmp 21) = .slice (some ⟨g,p,none⟩) es.length d:=hs.1
     have s22:ra.eval (.tmp 22) = .int .i64 i:=hs.2.1
     clear hs
     have x0:=hx.cell x0
     have x1:=hx.cell x1
     have x2:=hx.cell x2
     have x3:=hx.cell x3
     have y0:=hx.cell y0
     have y1:=hx.cell y1
     have y2:=hx.cell y2
     have y3:=hx.cell y3
     change Oper.wp _ _ ra w' _ _
     refine reg.wp_value (v:=.pointer (some ⟨g,p + i * 4,none⟩)) (w':=w') ?_ ⟨_,rfl,reg.Ext.refl _,rfl⟩
     intro ρ rc rf rg re
     rw [re] at s21 s22
     simp [execOp,go_sem,rc,rf,rg,s21,s22,hltI] <;> first | omega | rfl | decide
    ·-- 7: slot 24:=Op.load 58 t23
     intro ra w' hx hs
     have s23:ra.eval (.tmp 23) = .pointer (some ⟨g,p + i * 4,none⟩):=hs.1
     clear hs
     have x0:=hx.cell x0
     have x1:=hx.cell x1
     have x2:=hx.cell x2
     have x3:=hx.cell x3
     have y0:=hx.cell y0
     have y1:=hx.cell y1
     have y2:=hx.cell y2
     have y3:=hx.cell y3
     change Oper.wp _ _ ra w' _ _
     refine reg.wp_value (v:=entV e) (w':=w') ?_ ⟨_,rfl,reg.Ext.refl _,rfl⟩
     intro ρ rc rf rg re
     rw [re] at s23
     simp [execOp,go_sem,rc,rf,rg,s23,y0,y1,y2,y3] <;> first | omega | rfl | decide
    ·-- 8: slot 25:=Op.binOp BinOp.neq 58 t20 t24 58
     intro ra w' hx hs
     have s20:ra.eval (.tmp 20) = entV e:=hs.1
     have s24:ra.eval (.tmp 24) = entV e:=hs.2.1
     clear hs
     have x0:=hx.cell x0
     have x1:=hx.cell x1
     have x2:=hx.cell x2
     have x3:=hx.cell x3
     have y0:=hx.cell y0
     have y1:=hx.cell y1
     have y2:=hx.cell y2
     have y3:=hx.cell y3
     change Oper.wp _ _ ra w' _ _
     refine reg.wp_value (v:=.bool false) (w':=w') ?_ ⟨_,rfl,reg.Ext.refl _,rfl⟩
     intro ρ rc rf rg re
     rw [re] at s20 s24
     simp [execOp,go_sem,rc,rf,rg,s20,s24,neql_ent] <;> first | omega | rfl | decide
   intro rV w' hx hf
   have ve0:rV 0 = .slice (some ⟨b,o,none⟩) es.length c:=hf 0 (by decide)
   have ve1:rV 1 = .int .i64 i:=hf 1 (by decide)
   have ve2:rV 2 = .pointer (some ⟨b,o + i * 4,none⟩):=hf 2 (by decide)
   have ve3:rV 3 = entV e:=hf 3 (by decide)
   have ve4:rV 4 = .slice (some ⟨g,p,none⟩) es.length d:=hf 4 (by decide)
   have ve5:rV 5 = .int .i64 i:=hf 5 (by decide)
   have ve6:rV 6 = .pointer (some ⟨g,p + i * 4,none⟩):=hf 6 (by decide)
   have ve7:rV 7 = entV e:=hf 7 (by decide)
   have ve8:rV 8 = .bool false:=hf 8 (by decide)
   clear hf
   simp only [List.zipIdx_cons,List.zipIdx_nil,List.foldl_cons,List.foldl_nil,Act.put,Nat.reduceAdd,List.setIfInBounds_toArray,List.set_cons_succ,List.set_cons_zero,ve0,ve1,ve2,ve3,ve4,ve5,ve6,ve7,ve8]
   clear ve0 ve1 ve2 ve3 ve4 ve5 ve6 ve7 ve8
   clear rV
   go_wp2_with fail
   go_roundg gk
   case rel=>exact ⟨i + 1,by omega,by go_num,HB.out.drew.trans (hx.mono (Nat.le_trans HB.out.size (Nat.le_refl _)))⟩
   case measure=>omega
  ·have hn:¬ (i:Int) < (es.length:Int):=by omega
   go_wp2_with fail
   go_ret
   exact ⟨rfl,HB.out⟩
theorem SameLayer_two (es:List Ent) (A B:Option Addr) (c d:Nat) (w:World) (h:EIn w A c es) (hg:EIn w B d es) (hc:c ≤ 9223372036854775807) (hd:d ≤ 9223372036854775807) :
  Calls Tryz.prog 20 #[.agg #[.slice A es.length c],.agg #[.slice B es.length d]] w fun e w'=>e = .returned (.bool true) ∧ Below w.heap.size w w':=by
 have HB:Hid (Below w.heap.size w ((w.alloc (.cells #[.slice A es.length c] 44 (0,0))).alloc (.cells #[.slice B es.length d] 44 (0,0)))):=((Below.refl _ _).alloc (Nat.le_refl _) _).alloc (by simp) _
 have HC:=Lib.hid (SameEntries_two es A B c d _ (h.below HB.out) (hg.below HB.out) hc hd)
 clear h hg
 go_enter Tryz.func20,Tryz.ntmps20
 go_wp2_with fail
 refine HC.out.mono ?_;rintro e w1 ⟨rfl,hb⟩
 have HB2:=Lib.hid (HB.out.trans (hb.mono HB.out.size))
 clear hb HC HB
 go_wp2_with fail
 go_ret
 exact ⟨rfl,HB2.out⟩
theorem SameImage_two (ls:List (List Ent)) (A B:Option Addr) (c d:Nat) (w:World) (h:LIn w A c ls) (hg:LIn w B d ls) (hc:c ≤ 9223372036854775807) (hd:d ≤ 9223372036854775807) :
  Calls Tryz.prog 15 #[.agg #[.slice A ls.length c],.agg #[.slice B ls.length d]] w fun e w'=>e = .returned (.bool true) ∧ Below w.heap.size w w':=by
 have HB:Hid (Below w.heap.size w ((w.alloc (.cells #[.slice A ls.length c] 24 (0,0))).alloc (.cells #[.slice B ls.length d] 24 (0,0)))):=((Below.refl _ _).alloc (Nat.le_refl _) _).alloc (by simp) _
 have HN0:=Lib.hid (blk_old (blk_new w (.cells #[.slice A ls.length c] 24 (0,0))) (.cells #[.slice B ls.length d] 24 (0,0)))
 have hn1:=blk_new (w.alloc (.cells #[.slice A ls.length c] 24 (0,0))) (.cells #[.slice B ls.length d] 24 (0,0))
 rw [World.size_alloc] at hn1
 have HN1:=Lib.hid hn1
 have HH:=Lib.hid (h.below HB.out)
 have HG:=Lib.hid (hg.below HB.out)
 have hcl:=h.1
 have hdl:=hg.1
 clear h hg hn1
 go_enter Tryz.func15,Tryz.ntmps15
 go_wp2_with fail
 change Code.wp _ _ _ _ ((w.alloc (.cells #[.slice A ls.length c] 24 (0,0))).alloc (.cells #[.slice B ls.length d] 24 (0,0)))
 generalize ((w.alloc (.cells #[.slice A ls.length c] 24 (0,0))).alloc (.cells #[.slice B ls.length d] 24 (0,0))) = w1 at *
 go_loopg [5] ls.length (fun kk v3 wr=>∃ i:Nat,i + kk = ls.length ∧ v3 = .int .i64 i ∧ Hid (Below w1.heap.size w1 wr))
 case atStart=>exact ⟨0,by omega,rfl,Below.refl _ _⟩
 case round =>
  obtain ⟨i,hik,rfl,HW⟩:=hrel
  have c0:=blk_cell (blk_below HN0.out HW.out) 0
  have c1:=blk_cell (blk_below HN1.out HW.out) 0
  have l0:=blk_lt (blk_below HN0.out HW.out)
  have l1:=blk_lt (blk_below HN1.out HW.out)
  simp only [List.getElem?_toArray,List.getElem?_cons_zero] at c0 c1
  by_cases hlt:i < ls.length
  ·cases gk with
   | zero=>omega
   | succ gk =>
   have hltI:(i:Int) < (ls.length:Int):=by omega
   obtain ⟨es,he⟩:∃ e,ls[i]? = some e:=⟨_,List.getElem?_eq_getElem hlt⟩
   rcases HH.out.2 with rfl | ⟨b,o,rfl,hb⟩
   ·simp at hlt
   rcases HG.out.2 with rfl | ⟨g,p,rfl,hg⟩
   ·simp at hlt
   obtain ⟨Ai,ci,x0,hx1,hx2⟩:=hb i es he
   obtain ⟨Bi,di,y0,hy1,hy2⟩:=hg i es he
   have x0:=cell_below HW.out x0
   have y0:=cell_below HW.out y0
   have HX:=Lib.hid (hx1.below HW.out)
   have HY:=Lib.hid (hy1.below HW.out)
   clear hb hg he hx1 hy1
   go_wp2_with fail
   refine reg.region_each (by kernel_rfl) reg.Ext (fun ri v w'=>match ri with
     | 0=>v = .pointer (some ⟨w.heap.size,0,none⟩)
     | 1=>v = .slice (some ⟨b,o,none⟩) ls.length c
     | 2=>v = .int .i64 i
     | 3=>v = .pointer (some ⟨b,o + i,none⟩)
     | 4=>v = .agg #[.slice Ai es.length ci]
     | 5=>v = .pointer (some ⟨w.heap.size + 1,0,none⟩)
     | 6=>v = .slice (some ⟨g,p,none⟩) ls.length d
     | 7=>v = .int .i64 i
     | 8=>v = .pointer (some ⟨g,p + i,none⟩)
     | 9=>v = .agg #[.slice Bi es.length di]
     | 10=>v = .bool true
     | 11=>v = .bool false
     | _=>True) reg.Ext.refl reg.Ext.trans ?_ (by kernel_rfl) ?_ ?_
   ·
    intro i v w1 w2 h hx
    rcases i with _|_|_|_|_|_|_|_|_|_|_|_|i
    ·exact h
    ·exact h
    ·exact h
    ·exact h
    ·exact h
    ·exact h
    ·exact h
    ·exact h
    ·exact h
    ·exact h
    ·exact h
    ·exact h
    ·trivial
   ·
    refine ⟨?_,?_,?_,?_,?_,?_,?_,?_,?_,?_,?_,?_,trivial⟩
    ·-- 0: slot 20:=Op.fieldAddr 24 t2 0
     intro ra w' hx hs
     have s2:ra.eval (.tmp 2) = .pointer (some ⟨w.heap.size,0,none⟩):=hs.1
     clear hs
     have x0:=hx.cell x0
     have y0:=hx.cell y0
     have c0:=hx.cell c0
     have c1:=hx.cell c1
     change Oper.wp _ _ ra w' _ _
     refine reg.wp_value (v:=.pointer (some ⟨w.heap.size,0,none⟩)) (w':=w') ?_ ⟨_,rfl,reg.Ext.refl _,rfl⟩
     intro ρ rc rf rg re
     rw [re] at s2
     simp [execOp,go_sem,rc,rf,rg,s2] <;> first | omega | rfl | decide
    ·-- 1: slot 21:=Op.load 22 t20
     intro ra w' hx hs
     have s20:ra.eval (.tmp 20) = .pointer (some ⟨w.heap.size,0,none⟩):=hs.1
     clear hs
     have x0:=hx.cell x0
     have y0:=hx.cell y0
     have c0:=hx.cell c0
     have c1:=hx.cell c1
     change Oper.wp _ _ ra w' _ _
     refine reg.wp_value (v:=.slice (some ⟨b,o,none⟩) ls.length c) (w':=w') ?_ ⟨_,rfl,reg.Ext.refl _,rfl⟩
     intro ρ rc rf rg re
     rw [re] at s20
     simp [execOp,go_sem,rc,rf,rg,s20,c0] <;> first | omega | rfl | decide
    ·-- 2: slot 22:=Op.move t5
     intro ra w' hx hs
     have s5:ra.eval (.tmp 5) = .int .i64 i:=hs.1
     clear hs
     have x0:=hx.cell x0
     have y0:=hx.cell y0
     have c0:=hx.cell c0
     have c1:=hx.cell c1
     change Oper.wp _ _ ra w' _ _
     refine reg.wp_value (v:=.int .i64 i) (w':=w') ?_ ⟨_,rfl,reg.Ext.refl _,rfl⟩
     intro ρ rc rf rg re
     rw [re] at s5
     simp [execOp,go_sem,rc,rf,rg,s5] <;> first | omega | rfl | decide
    ·-- 3: slot 23:=Op.indexAddr 22 t21 t22
     intro ra w' hx hs
     have s21:ra.eval (.tmp 21) = .slice (some ⟨b,o,none⟩) ls.length c:=hs.1
     have s22:ra.eval (.tmp 22) = .int .i64 i:=hs.2.1
     clear hs
     have x0:=hx.cell x0
     have y0:=hx.cell y0
     have c0:=hx.cell c0
     have c1:=hx.cell c1
     change Oper.wp _ _ ra w' _ _
     refine reg.wp_value (v:=.pointer (some ⟨b,o + i,none⟩)) (w':=w') ?_ ⟨_,rfl,reg.Ext.refl _,rfl⟩
     intro ρ rc rf rg re
     rw [re] at s21 s22
     simp [execOp,go_sem,rc,rf,rg,s21,s22,hltI] <;> first | omega | rfl | decide
    ·-- 4: slot 24:=Op.load 44 t23
     intro ra w' hx hs
     have s23:ra.eval (.tmp 23) = .pointer (some ⟨b,o + i,none⟩):=hs.1
     clear hs
     have x0:=hx.cell x0
     have y0:=hx.cell y0
     have c0:=hx.cell c0
     have c1:=hx.cell c1
     change Oper.wp _ _ ra w' _ _
     refine reg.wp_value (v:=.agg #[.slice Ai es.length ci]) (w':=w') ?_ ⟨_,rfl,reg.Ext.refl _,rfl⟩
     intro ρ rc rf rg re
     rw [re] at s23
     simp [execOp,go_sem,rc,rf,rg,s23,x0] <;> first | omega | rfl | decide
    ·-- 5: slot 25:=Op.fieldAddr 24 t3 0
     intro ra w' hx hs
     have s3:ra.eval (.tmp 3) = .pointer (some ⟨w.heap.size + 1,0,none⟩):=hs.1
     clear hs
     have x0:=hx.cell x0
     have y0:=hx.cell y0
     have c0:=hx.cell c0
     have c1:=hx.cell c1
     change Oper.wp _ _ ra w' _ _
     refine reg.wp_value (v:=.pointer (some ⟨w.heap.size + 1,0,none⟩)) (w':=w') ?_ ⟨_,rfl,reg.Ext.refl _,rfl⟩
     intro ρ rc rf rg re
     rw [re] at s3
     simp [execOp,go_sem,rc,rf,rg,s3] <;> first | omega | rfl | decide
    ·-- 6: slot 26:=Op.load 22 t25
     intro ra w' hx hs
     have s25:ra.eval (.tmp 25) = .pointer (some ⟨w.heap.size + 1,0,none⟩):=hs.1
     clear hs
     have x0:=hx.cell x0
     have y0:=hx.cell y0
     have c0:=hx.cell c0
     have c1:=hx.cell c1
     change Oper.wp _ _ ra w' _ _
     refine reg.wp_value (v:=.slice (some ⟨g,p,none⟩) ls.length d) (w':=w') ?_ ⟨_,rfl,reg.Ext.refl _,rfl⟩
     intro ρ rc rf rg re
     rw [re] at s25
     simp [execOp,go_sem,rc,rf,rg,s25,c1] <;> first | omega | rfl | decide
    ·-- 7: slot 27:=Op.move t5
     intro ra w' hx hs
     have s5:ra.eval (.tmp 5) = .int .i64 i:=hs.1
     clear hs
     have x0:=hx.cell x0
     have y0:=hx.cell y0
     have c0:=hx.cell c0
     have c1:=hx.cell c1
     change Oper.wp _ _ ra w' _ _
     refine reg.wp_value (v:=.int .i64 i) (w':=w') ?_ ⟨_,rfl,reg.Ext.refl _,rfl⟩
     intro ρ rc rf rg re
     rw [re] at s5
     simp [execOp,go_sem,rc,rf,rg,s5] <;> first | omega | rfl | decide
    ·-- 8: slot 28:=Op.indexAddr 22 t26 t27
     intro ra w' hx hs
     have s26:ra.eval (.tmp 26) = .slice (some ⟨g,p,none⟩) ls.length d:=hs.1
     have s27:ra.eval (.tmp 27) = .int .i64 i:=hs.2.1
     clear hs
     have x0:=hx.cell x0
     have y0:=hx.cell y0
     have c0:=hx.cell c0
     have c1:=hx.cell c1
     change Oper.wp _ _ ra w' _ _
     refine reg.wp_value (v:=.pointer (some ⟨g,p + i,none⟩)) (w':=w') ?_ ⟨_,rfl,reg.Ext.refl _,rfl⟩
     intro ρ rc rf rg re
     rw [re] at s26 s27
     simp [execOp,go_sem,rc,rf,rg,s26,s27,hltI] <;> first | omega | rfl | decide
    ·-- 9: slot 29:=Op.load 44 t28
     intro ra w' hx hs
     have s28:ra.eval (.tmp 28) = .pointer (some ⟨g,p + i,none⟩):=hs.1
     clear hs
     have x0:=hx.cell x0
     have y0:=hx.cell y0
     have c0:=hx.cell c0
     have c1:=hx.cell c1
     change Oper.wp _ _ ra w' _ _
     refine reg.wp_value (v:=.agg #[.slice Bi es.length di]) (w':=w') ?_ ⟨_,rfl,reg.Ext.refl _,rfl⟩
     intro ρ rc rf rg re
     rw [re] at s28
     simp [execOp,go_sem,rc,rf,rg,s28,y0] <;> first | omega | rfl | decide
    ·-- 10: slot 30:=Op.call { value (Operand.func 20),args := #[t24,t29],argTypes := #[44,44] }
     intro ra w' hx hs
     have s24:ra.eval (.tmp 24) = .agg #[.slice Ai es.length ci]:=hs.1
     have s29:ra.eval (.tmp 29) = .agg #[.slice Bi es.length di]:=hs.2.1
     clear hs
     have x0:=hx.cell x0
     have y0:=hx.cell y0
     have c0:=hx.cell c0
     have c1:=hx.cell c1
     change Oper.wp _ _ ra w' _ _
     refine reg.wp_call (f:=20) (args := #[.agg #[.slice Ai es.length ci],.agg #[.slice Bi es.length di]]) (w':=w') ?_ ?_
     ·intro ρ rc rf rg re
      rw [re] at s24 s29
      simp [execOp,go_sem,rc,rf,rg,s24,s29] <;> first | omega | rfl | decide
     refine (SameLayer_two es Ai Bi ci di w' (HX.out.below ((Below.refl _ wr).drew.trans hx)) (HY.out.below ((Below.refl _ wr).drew.trans hx)) hx2 hy2).mono ?_
     rintro e w2 ⟨rfl,hb⟩
     exact ⟨_,rfl,_,rfl,hb,rfl⟩
    ·-- 11: slot 31:=Op.unOp UnOp.not 4 t30
     intro ra w' hx hs
     have s30:ra.eval (.tmp 30) = .bool true:=hs.1
     clear hs
     have x0:=hx.cell x0
     have y0:=hx.cell y0
     have c0:=hx.cell c0
     have c1:=hx.cell c1
     change Oper.wp _ _ ra w' _ _
     refine reg.wp_value (v:=.bool false) (w':=w') ?_ ⟨_,rfl,reg.Ext.refl _,rfl⟩
     intro ρ rc rf rg re
     rw [re] at s30
     simp [execOp,go_sem,rc,rf,rg,s30] <;> first | omega | rfl | decide
   intro rV w' hx hf
   have ve0:rV 0 = .pointer (some ⟨w.heap.size,0,none⟩):=hf 0 (by decide)
   have ve1:rV 1 = .slice (some ⟨b,o,none⟩) ls.length c:=hf 1 (by decide)
   have ve2:rV 2 = .int .i64 i:=hf 2 (by decide)
   have ve3:rV 3 = .pointer (some ⟨b,o + i,none⟩):=hf 3 (by decide)
   have ve4:rV 4 = .agg #[.slice Ai es.length ci]:=hf 4 (by decide)
   have ve5:rV 5 = .pointer (some ⟨w.heap.size + 1,0,none⟩):=hf 5 (by decide)
   have ve6:rV 6 = .slice (some ⟨g,p,none⟩) ls.length d:=hf 6 (by decide)
   have ve7:rV 7 = .int .i64 i:=hf 7 (by decide)
   have ve8:rV 8 = .pointer (some ⟨g,p + i,none⟩):=hf 8 (by decide)
   have ve9:rV 9 = .agg #[.slice Bi es.length di]:=hf 9 (by decide)
   have ve10:rV 10 = .bool true:=hf 10 (by decide)
   have ve11:rV 11 = .bool false:=hf 11 (by decide)
   clear hf
   simp only [List.zipIdx_cons,List.zipIdx_nil,List.foldl_cons,List.foldl_nil,Act.put,Nat.reduceAdd,List.setIfInBounds_toArray,List.set_cons_succ,List.set_cons_zero,ve0,ve1,ve2,ve3,ve4,ve5,ve6,ve7,ve8,ve9,ve10,ve11]
   clear ve0 ve1 ve2 ve3 ve4 ve5 ve6 ve7 ve8 ve9 ve10 ve11
   clear rV
   go_wp2_with fail
   go_roundg gk
   case rel=>exact ⟨i + 1,by omega,by go_num,HW.out.drew.trans (hx.mono (Nat.le_trans HW.out.size (Nat.le_refl _)))⟩
   case measure=>omega
  ·have hn:¬ (i:Int) < (ls.length:Int):=by omega
   go_wp2_with fail
   go_ret
   exact ⟨rfl,HB.out.trans (HW.out.mono HB.out.size)⟩
end Go.Proofs.YtifhnpkapgaboaaGreat.arch
