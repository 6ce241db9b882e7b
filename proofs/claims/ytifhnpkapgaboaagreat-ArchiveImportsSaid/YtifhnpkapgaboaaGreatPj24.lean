/-
  Proved: what the program's field does where an entry is applied. Conditions: as each theorem says.
  Proved: what the program's Decode does. Conditions: as each theorem says.
  Proved: what the reading of an image's stream gives. Conditions: as each theorem says.
  Proved: what package archive does of an image without layers. Conditions: as each theorem says.
-/
import Derived.Test.YtifhnpkapgaboaaGreatPj23
import Derived.BigQuiet
import Derived.Test.YtifhnpkapgaboaaGreatPj21
import Derived.Test.YtifhnpkapgaboaaGreatPj16
set_option linter.unusedVariables false
set_option linter.unusedSimpArgs false
namespace Go.Proofs.YtifhnpkapgaboaaGreat.fld
open Go.RowKit
open heap maps
open path (sv str_size)
open arch (Ent entV PP entO e0)
set_option maxRecDepth 100000
theorem field_ent1 (w:World) (a b c d:Value):(Instr.field 58 (.agg #[a,b,c,d]) 1).run Tryz.prog w = .ok b w:=by kernel_rfl
attribute [local go_sem] field_ent1
theorem node_look {w:World} {m:Nat} {l:List (Nm × Ent)} (h:MapB w m (nodeV l)) (p:Nm):(Instr.lookup 116 (.map (some m)) (.string ⟨p.toArray⟩) false).run Tryz.prog w = .ok (entV ((getA p l).getD e0)) w:=by
 rw [run_lookup h.s Tryz.underlying116 Tryz.underlying9 (entV e0) (by kernel_rfl) p,show nodeV l = l.map (fun x=>(x.1,entV x.2)) from rfl,look_get]
 cases getA p l <;> rfl
theorem node_look_ok {w:World} {m:Nat} {l:List (Nm × Ent)} (h:MapB w m (nodeV l)) (p:Nm):(Instr.lookup 116 (.map (some m)) (.string ⟨p.toArray⟩) true).run Tryz.prog w = .ok (.tuple #[entV ((getA p l).getD e0),.bool (getA p l).isSome]) w:=by
 rw [run_lookup_ok h.s Tryz.underlying116 Tryz.underlying9 (entV e0) (by kernel_rfl) p,show nodeV l = l.map (fun x=>(x.1,entV x.2)) from rfl,look_get,look_is]
 cases getA p l <;> rfl
def ApP (f m k:Nat) (F:Fld) (r:Option Fld) (w:World) (e:Ending) (w':World):Prop:=match r with
 | none=>e = .returned (.bool false) ∧ FldP w' f m k F ∧ Turned [m,k] w w'
 | some F'=>e = .returned (.bool true) ∧ FldP w' f m k F' ∧ Turned [m,k] w w'
set_option maxHeartbeats 4000000 in
theorem Apply_any (w:World) (f m k:Nat) (F:Fld) (e:Ent) (h:FldP w f m k F) (hp:e.path.length ≤ 1000000000) :
  Calls Tryz.prog 30 #[PP f,entV e] w (ApP f m k F (applyF F e) w):=by
 have HF:=Lib.hid h
 have HX:=Lib.hid (blk_new w (entO e))
 have HF1:=Lib.hid (h.below ((Below.refl _ _).alloc (Nat.le_refl _) (entO e)))
 have HT:Hid (Turned [m,k] w (w.alloc (entO e))):=(Turned.refl _ _).alloc _
 have hfl:=blk_lt h.blk
 have hml:=h.nodes.lt
 have hkl:=h.kids.lt
 clear h
 obtain ⟨R,hR⟩:∃ R,applyF F e = R:=⟨_,rfl⟩
 rw [hR]
 have HD:=Lib.hid hR
 clear hR
 unfold applyF at HD
 go_enter Tryz.func30,Tryz.ntmps30
 go_upto_region 1 with fail
 change Code.wp _ _ _ _ (w.alloc (entO e))
 have e1:(w.alloc (entO e)).heap.size = w.heap.size + 1:=by simp
 generalize w.alloc (entO e) = w1 at *
 have x0:=blk_cell (HX.out) 0
 have x1:=blk_cell (HX.out) 1
 have x2:=blk_cell (HX.out) 2
 have x3:=blk_cell (HX.out) 3
 have xl:=blk_lt (HX.out)
 simp only [List.getElem?_toArray,List.getElem?_cons_zero,List.getElem?_cons_succ] at x0 x1 x2 x3
 have c0:=blk_cell HF1.out.blk 0
 have cl:=blk_lt HF1.out.blk
 simp only [List.getElem?_toArray,List.getElem?_cons_zero] at c0
 have HAB:=Lib.hid (above_any e.path w1 hp)
 go_wp2_with fail
 refine HAB.out.mono ?_;rintro r w1 ⟨rfl,rfl⟩
 have hlk:=node_look HF1.out.nodes (aboveP e.path)
 generalize hup:aboveP e.path = up at *
 generalize hku:(getA up F.nodes).getD e0 = eu at *
 go_upto_region 2 with fail
 obtain ⟨B,hB⟩:∃ B,(!up.isEmpty && eu.kind != 1) = B:=⟨_,rfl⟩
 have HB:=Lib.hid hB
 clear hB
 go_cut [22] from 11 to 21 (fun v wc=>v = .bool B ∧ wc = w1)
 case first =>
  cases hie:up.isEmpty with
  | true =>
   have:B = false:=by rw [← HB.out,hie];rfl
   subst this
   go_wp2_with fail
   go_meet
   case rel=>exact ⟨rfl,rfl⟩
  | false =>
   have hk1:(eu.kind != 1) = B:=by rw [← HB.out,hie];rfl
   go_wp2_with fail
   go_meet
   case rel=>exact ⟨by simp,rfl⟩
 case rest =>
 obtain ⟨rfl,rfl⟩:=hcut
 cases B with
 | true =>
  have h1:up ≠ [] ∧ eu.kind ≠ 1:=by simpa using HB.out
  rw [if_pos h1] at HD
  go_wp2_with fail
  go_ret
  rw [← HD.out]
  exact ⟨rfl,HF1.out,HT.out⟩
 | false =>
 have h1:¬ (up ≠ [] ∧ eu.kind ≠ 1):=fun h=>by
  have:(!up.isEmpty && eu.kind != 1) = true:=by simpa using h
  rw [HB.out] at this
  cases this
 rw [if_neg h1] at HD
 clear h1 HB
 clear hlk HAB
 generalize hold:(getA e.path F.nodes).getD e0 = old at *
 generalize his:(getA e.path F.nodes).isSome = is at *
 have hlkA:=node_look_ok (HF1.out.nodes.turned (Turned.refl [] _).drew (by simp)) e.path
 have hlkB:=node_look_ok (HF1.out.nodes.turned (((Turned.refl [] wc).alloc (.cells #[.string ⟨#[]⟩,.int .i64 0,.int .i64 0,.string ⟨#[]⟩] 58 (0,0))).drew) (by simp)) e.path
 have hlkC:=node_look_ok (HF1.out.nodes.turned (((Turned.refl [] wc).drew).alloc (.cells #[.string ⟨#[]⟩,.int .i64 0,.int .i64 0,.string ⟨#[]⟩] 58 (0,0))) (by simp)) e.path
 rw [hold,his] at hlkA hlkB hlkC
 go_upto_region 4 with fail
 go_cut [6,7] from 23 to 32 (fun v6 v7 w2=>v6 = PP (w.heap.size + 1) ∧ v7 = .bool is ∧ Hid (FldP w2 f m k F) ∧ Hid (w2.heap[w.heap.size]? = some (entO e)) ∧ Hid (w2.heap[w.heap.size + 1]? = some (entO old)) ∧ Hid (Turned [m,k] w w2))
 case first =>
  have hn:=blk_new wc (entO old)
  rw [e1] at hn
  go_region
  all_goals
   go_wp2_with fail
   go_meet
   case rel =>
    refine ⟨rfl,rfl,HF1.out.turned (((Turned.refl [] wc).alloc _).drew) (by simp) (by simp) (by simp),?_,?_,(HT.out.alloc _).drew⟩
    ·exact blk_old HX.out _
    ·exact hn
 case rest =>
 obtain ⟨rfl,rfl,HF2,HX2,HO2,HT2⟩:=hcut
 clear hlkA hlkB hlkC HF HF1 HX HT c0 cl x0 x1 x2 x3 xl e1
 generalize wc = w2 at *
 have x0:=blk_cell (HX2.out) 0
 have x1:=blk_cell (HX2.out) 1
 have x2:=blk_cell (HX2.out) 2
 have x3:=blk_cell (HX2.out) 3
 have xl:=blk_lt (HX2.out)
 simp only [List.getElem?_toArray,List.getElem?_cons_zero,List.getElem?_cons_succ] at x0 x1 x2 x3
 have o0:=blk_cell (HO2.out) 0
 have o1:=blk_cell (HO2.out) 1
 have o2:=blk_cell (HO2.out) 2
 have o3:=blk_cell (HO2.out) 3
 have ol:=blk_lt (HO2.out)
 simp only [List.getElem?_toArray,List.getElem?_cons_zero,List.getElem?_cons_succ] at o0 o1 o2 o3
 have of2:=blk_free HO2.out 2
 have c0:=blk_cell HF2.out.blk 0
 have cl:=blk_lt HF2.out.blk
 simp only [List.getElem?_toArray,List.getElem?_cons_zero] at c0
 cases hk4:(e.kind == 4) with
 | true =>
  have hk:e.kind = 4:=by simpa using hk4
  cases is with
  | false =>
   rw [if_pos ⟨hk,rfl⟩] at HD
   go_wp2_with fail
   go_ret
   rw [← HD.out]
   exact ⟨rfl,HF2.out,HT2.out⟩
  | true =>
   rw [if_neg (by simp),if_neg (by omega),if_pos hk,if_pos rfl] at HD
   have hk1:(e.kind == 1) = false:=by rw [beq_eq_false_iff_ne];omega
   have HGN:=Lib.hid (gone_any w2 f m k F e.path HF2.out hp)
   go_wp2_with fail
   refine HGN.out.mono ?_;rintro r w3 ⟨rfl,hf3,ht3⟩
   have HX3:=ht3.kept HX2.out (by simp;omega)
   have HT3:=Lib.hid (HT2.out.trans ht3)
   have HF3:=Lib.hid hf3
   clear x0 x1 x2 x3 xl hf3 ht3 c0 cl o0 o1 o2 o3 ol of2
   have x0:=blk_cell (HX3) 0
   have x1:=blk_cell (HX3) 1
   have x2:=blk_cell (HX3) 2
   have x3:=blk_cell (HX3) 3
   have xl:=blk_lt (HX3)
   simp only [List.getElem?_toArray,List.getElem?_cons_zero,List.getElem?_cons_succ] at x0 x1 x2 x3
   go_wp2_with fail
   go_ret
   rw [← HD.out]
   exact ⟨rfl,HF3.out,HT3.out⟩
 | false =>
 have hk:¬ e.kind = 4:=by simpa using hk4
 rw [if_neg (fun h=>hk h.1)] at HD
 cases h3:(e.kind == 1 && old.kind == 1) with
 | true =>
  have h31:(e.kind == 1) = true:=by cases h:(e.kind == 1) <;> simp [h] at h3 ⊢
  have h32:(old.kind == 1) = true:=by cases h:(old.kind == 1) <;> simp [h] at h3 ⊢
  rw [if_pos ⟨by simpa using h31,by simpa using h32⟩] at HD
  go_upto_region 9 with fail
  have HO3:=Lib.hid (blk_set HO2.out 2 (.int .i64 e.mode))
  have HX3:=Lib.hid ((blk_other (show w.heap.size ≠ w.heap.size + 1 by omega) 2 (.int .i64 e.mode)).trans HX2.out)
  have ht3:Turned [w.heap.size + 1] w2 (w2.setCell ⟨w.heap.size + 1,2,none⟩ (.int .i64 e.mode)):=(Turned.refl _ _).setCell (by simp) _
  have HF3:=Lib.hid (HF2.out.turned ht3 (by simp;omega) (by simp;omega) (by simp;omega))
  have HT3:=Lib.hid (tur_new HT2.out ht3 (by simp))
  generalize (w2.setCell ⟨w.heap.size + 1,2,none⟩ (.int .i64 e.mode)) = w3 at *
  clear x0 x1 x2 x3 xl o0 o1 o2 o3 ol of2 c0 cl ht3 HF2 HX2 HO2 HT2
  have x0:=blk_cell (HX3.out) 0
  have x1:=blk_cell (HX3.out) 1
  have x2:=blk_cell (HX3.out) 2
  have x3:=blk_cell (HX3.out) 3
  have xl:=blk_lt (HX3.out)
  simp only [List.getElem?_toArray,List.getElem?_cons_zero,List.getElem?_cons_succ] at x0 x1 x2 x3
  have o0:=blk_cell HO3.out 0
  have o1:=blk_cell HO3.out 1
  have o2:=blk_cell HO3.out 2
  have o3:=blk_cell HO3.out 3
  have ol:=blk_lt HO3.out
  simp only [List.setIfInBounds_toArray,List.set_cons_succ,List.set_cons_zero,List.getElem?_toArray,List.getElem?_cons_zero,List.getElem?_cons_succ] at o0 o1 o2 o3
  have c0:=blk_cell HF3.out.blk 0
  have cl:=blk_lt HF3.out.blk
  simp only [List.getElem?_toArray,List.getElem?_cons_zero] at c0
  have HND:Hid (MapB w3.drew m (nodeV F.nodes)):=HF3.out.nodes.turned (Turned.refl [] _).drew (by simp)
  go_still_tail 7,(by kernel_rfl)
  change wpList _ _ _ _ _ w3.drew
  refine wpList_updateB (v:=entV { old with mode:=e.mode }) rfl rfl Tryz.underlying116 Tryz.underlying9 rfl rfl rfl HND.out ?_
  intro w4 hm' ht'
  have hT4:Turned [m] w3 w4:=((Turned.refl [m] w3).drew).trans ht'
  have hmap:=upd_map entV e.path { old with mode:=e.mode } F.nodes
  have hm4:MapB w4 m (nodeV (updA e.path { old with mode:=e.mode } F.nodes)):=by
   rw [show nodeV (updA e.path { old with mode:=e.mode } F.nodes) = upd e.path (entV { old with mode:=e.mode }) (nodeV F.nodes) from hmap.symm];exact hm'
  have HF4:Hid (FldP w4 f m k ⟨updA e.path { old with mode:=e.mode } F.nodes,F.kids⟩):=⟨hT4.kept HF3.out.blk (by simp;exact HF3.out.fm),hm4,HF3.out.kids.turned hT4 (by simp;exact fun e=>HF3.out.ne e.symm),HF3.out.ne⟩
  have HT4:Hid (Turned [m,k] w w4):=HT3.out.trans (hT4.mono (by simp))
  clear hm' ht' hT4 hmap hm4
  go_wp2_with fail
  go_ret
  rw [← HD.out]
  exact ⟨rfl,HF4.out,HT4.out⟩
 | false =>
  rw [if_neg (fun h=>by rw [h.1,h.2] at h3;cases h3),if_neg hk] at HD
  go_upto_region 7 with fail
  go_cut [47] from 40 to 46 (fun v wc=>v = .bool false ∧ wc = w2)
  case first =>
   cases h31:(e.kind == 1) with
   | true =>
    have h32:(old.kind == 1) = false:=by rw [h31] at h3;simpa using h3
    go_wp2_with fail
    go_meet
    case rel=>exact ⟨rfl,rfl⟩
   | false =>
    go_wp2_with fail
    go_meet
    case rel=>exact ⟨rfl,rfl⟩
  case rest =>
  obtain ⟨rfl,rfl⟩:=hcut
  generalize wc = w2 at *
  go_upto_if 58 with fail
  generalize hF1:(if is = true then goneF F e.path else F) = F1 at *
  go_cut [58] from 59 to 62 (fun _ wc=>Hid (FldP wc f m k F1) ∧ Hid (wc.heap[w.heap.size]? = some (entO e)) ∧ Hid (Turned [m,k] w wc))
  case first =>
   cases is with
   | true =>
    have hg:goneF F e.path = F1:=by rw [← hF1];rfl
    have HGN:=Lib.hid (gone_any w2 f m k F e.path HF2.out hp)
    rw [hg] at HGN
    go_wp2_with fail
    refine HGN.out.mono ?_;rintro r w3 ⟨rfl,hf3,ht3⟩
    have HX3:=Lib.hid (ht3.kept HX2.out (by simp;omega))
    have HT3:=Lib.hid (HT2.out.trans ht3)
    have HF3:=Lib.hid hf3
    clear hf3 ht3
    go_wp2_with fail
    go_meet
    case rel=>exact ⟨HF3,HX3,HT3⟩
   | false =>
    have hg:F = F1:=by rw [← hF1];rfl
    subst hg
    go_wp2_with fail
    go_meet
    case rel=>exact ⟨HF2,HX2,HT2⟩
  case rest =>
  obtain ⟨HF3,HX3,HT3⟩:=hcut
  clear x0 x1 x2 x3 xl o0 o1 o2 o3 ol of2 c0 cl HF2 HX2 HO2 HT2 hF1
  generalize wc = w3 at *
  have x0:=blk_cell (HX3.out) 0
  have x1:=blk_cell (HX3.out) 1
  have x2:=blk_cell (HX3.out) 2
  have x3:=blk_cell (HX3.out) 3
  have xl:=blk_lt (HX3.out)
  simp only [List.getElem?_toArray,List.getElem?_cons_zero,List.getElem?_cons_succ] at x0 x1 x2 x3
  have xf1:=blk_free HX3.out 1
  cases hk5:(e.kind == 5) with
  | true =>
   have hk:e.kind = 5:=by simpa using hk5
   rw [if_pos hk] at HD
   have HX4:=Lib.hid (blk_set HX3.out 1 (.int .i64 1))
   have ht4:Turned [w.heap.size] w3 (w3.setCell ⟨w.heap.size,1,none⟩ (.int .i64 1)):=(Turned.refl _ _).setCell (by simp) _
   have HF4:=Lib.hid (HF3.out.turned ht4 (by simp;omega) (by simp;omega) (by simp;omega))
   have HT4:=Lib.hid (tur_new HT3.out ht4 (by simp))
   go_upto_region 18 with fail
   generalize (w3.setCell ⟨w.heap.size,1,none⟩ (.int .i64 1)) = w4 at *
   clear x0 x1 x2 x3 xl xf1 ht4 HF3 HX3 HT3
   have x0:=blk_cell HX4.out 0
   have x1:=blk_cell HX4.out 1
   have x2:=blk_cell HX4.out 2
   have x3:=blk_cell HX4.out 3
   have xl:=blk_lt HX4.out
   simp only [List.setIfInBounds_toArray,List.set_cons_succ,List.set_cons_zero,List.getElem?_toArray,List.getElem?_cons_zero,List.getElem?_cons_succ] at x0 x1 x2 x3
   have HPU:=Lib.hid (put_any w4 f m k F1 { e with kind:=1 } HF4.out hp)
   go_wp2_with fail
   refine HPU.out.mono ?_;rintro r w5 ⟨rfl,hf5,ht5⟩
   have HT5:=Lib.hid (HT4.out.trans ht5)
   have HF5:=Lib.hid hf5
   clear hf5 ht5
   go_wp2_with fail
   go_ret
   rw [← HD.out]
   exact ⟨rfl,HF5.out,HT5.out⟩
  | false =>
   have hk5':¬ e.kind = 5:=by simpa using hk5
   rw [if_neg hk5'] at HD
   have HPU:=Lib.hid (put_any w3 f m k F1 e HF3.out hp)
   go_wp2_with fail
   refine HPU.out.mono ?_;rintro r w5 ⟨rfl,hf5,ht5⟩
   have HT5:=Lib.hid (HT3.out.trans ht5)
   have HF5:=Lib.hid hf5
   clear hf5 ht5
   go_wp2_with fail
   go_ret
   rw [← HD.out]
   exact ⟨rfl,HF5.out,HT5.out⟩
end Go.Proofs.YtifhnpkapgaboaaGreat.fld
namespace Go.Proofs.YtifhnpkapgaboaaGreat.arch
open Go.RowKit
open heap
open path (sv str_size)
set_option maxRecDepth 100000
theorem decode1_any (q:Nat) (s:Nm) (W:World) (h:W.heap[q]? = some (RdO s 0)) (hs:s.length ≤ 65536):Calls Tryz.prog 78 #[PP q] W (LayP q s (layerD s 0) W):=by
 have H:=Lib.hid h
 have hl:=blk_lt h
 have HL:=Lib.hid (layer_any q s 0 _ (blk_old h (.cells #[.slice none 0 0] 44 (0,0))) (by omega) hs)
 clear h
 obtain ⟨R,hR⟩:∃ R,layerD s 0 = R:=⟨_,rfl⟩
 rw [hR] at HL ⊢
 clear hR
 have HN:=Lib.hid (blk_new W (.cells #[.slice none 0 0] 44 (0,0)))
 have HT:Hid (Turned [q] W (W.alloc (.cells #[.slice none 0 0] 44 (0,0)))):=(Turned.refl _ _).alloc _
 go_enter Tryz.func78,Tryz.ntmps78
 go_wp2_with fail
 refine (HL.out).mono ?_
 intro e w2 hp
 cases R with
 | error p =>
  obtain ⟨rfl,ht⟩:=hp
  go_wp2_with fail
  exact ⟨rfl,rfl,HT.out.trans ht⟩
 | ok r =>
  obtain ⟨es,a⟩:=r
  obtain ⟨v,rfl,hrow,hq,ht⟩:=hp
  obtain ⟨A,gb,c,rfl,-⟩:=hrow.slice
  have HN2:=ht.kept HN.out (by simp;omega)
  have HT2:=Lib.hid (HT.out.trans ht)
  have HQ:=Lib.hid hq
  have HR:=Lib.hid hrow
  clear ht hq hrow
  have c2:=blk_cell HN2 0
  have f2:=blk_free HN2 0
  have l2:=blk_lt HN2
  simp only [List.getElem?_toArray,List.getElem?_cons_zero] at c2
  go_upto_region 5 with fail
  have k2:=blk_cell (blk_set HN2 0 (.slice A es.length c)) 0
  simp only [List.setIfInBounds_toArray,List.set_cons_zero,List.getElem?_toArray,List.getElem?_cons_zero] at k2
  have HP:LayP q s (.ok (es,a)) W (.returned (.agg #[.slice A es.length c])) (w2.setCell ⟨W.heap.size,0,none⟩ (.slice A es.length c)):=
   ⟨_,rfl,ERow.base (HR.out.turned ((Turned.refl [W.heap.size] _).setCell (by simp) _) (fun g hg hm=>by
    have k1:=(HR.out.lt g hg).1
    simp at hm k1
    omega)) (by simp),(blk_other (by omega) 0 _).trans HQ.out,tur_set HT2.out (Nat.le_refl _) _⟩
  refine bodyPost_ret (v:=.agg #[.slice A es.length c]) (by simp [results,Tryz.results78,go_sem,k2]) rfl ?_
  exact HP
theorem dec_read (s:Nm):readD s (layerD s 0) = decD s:=by
 unfold readD layerD markD decD
 by_cases h1:65536 < s.length
 ·rw [if_pos h1,if_pos h1]
 rw [if_neg h1,if_neg h1]
 by_cases h2:mkL.isPrefixOf (s.drop 0) = true
 ·have h3:s.take 3 = mkL:=by
   obtain ⟨t,ht⟩:=List.isPrefixOf_iff_prefix.1 h2
   rw [List.drop_zero] at ht
   rw [← ht]
   rfl
  rw [if_pos h2,if_neg (by rw [h3];simp)]
  rfl
 ·rw [if_neg h2,if_pos (fun h3=>h2 (List.isPrefixOf_iff_prefix.2 ⟨s.drop 3,by rw [List.drop_zero,← h3];exact List.take_append_drop 3 s⟩))]
theorem Decode_any (s:Nm) (w:World) (hs:s.length ≤ 1000000000000000000):Calls Tryz.prog 39 #[sv s] w (DecP (decD s) w):=by
 have HR:=Lib.hid (readL_any s (layerD s 0) (w.alloc (.cells #[.slice none 0 0] 44 (0,0))) hs (fun q W h hl=>decode1_any q s W h hl))
 rw [dec_read] at HR
 obtain ⟨R,hR⟩:∃ R,decD s = R:=⟨_,rfl⟩
 rw [hR] at HR ⊢
 clear hR
 have hmf:∀ (fn:Fn) (first cap:Array Value) (w:World),(Instr.makeFunc fn first cap).run Tryz.prog w = .ok (.func fn first cap) w:=fun _ _ _ _=>rfl
 have HN:=Lib.hid (blk_new w (.cells #[.slice none 0 0] 44 (0,0)))
 have HB:Hid (Below w.heap.size w (w.alloc (.cells #[.slice none 0 0] 44 (0,0)))):=(Below.refl _ _).alloc (Nat.le_refl _) _
 go_enter Tryz.func39,Tryz.ntmps39
 go_wp2_with fail
 refine (HR.out).mono ?_
 intro e w2 hp
 cases R with
 | error p =>
  obtain ⟨rfl,hb⟩:=hp
  have HN2:=blk_below HN.out hb
  have HB2:=Lib.hid (HB.out.trans (hb.mono (by simp)))
  clear hb HB HR
  have c2:=blk_cell HN2 0
  have f2:=blk_free HN2 0
  have l2:=blk_lt HN2
  simp only [List.getElem?_toArray,List.getElem?_cons_zero] at c2
  go_wp2_with fail
  have k2:=blk_cell (blk_set HN2 0 (.slice none 0 0)) 0
  simp only [List.setIfInBounds_toArray,List.set_cons_zero,List.getElem?_toArray,List.getElem?_cons_zero] at k2
  refine bodyPost_ret (v:=.tuple #[.agg #[.slice none 0 0],.int .i64 p.1,.int .i64 p.2]) (by simp [results,Tryz.results39,go_sem,k2]) rfl ?_
  exact ⟨rfl,HB2.out.setCell (by simp) _⟩
 | ok es =>
  obtain ⟨v,rfl,hrow,hb⟩:=hp
  obtain ⟨A,gb,c,rfl,-⟩:=hrow.slice
  have HN2:=blk_below HN.out hb
  have HB2:=Lib.hid (HB.out.trans (hb.mono (by simp)))
  have HW:=Lib.hid hrow
  clear hb HB HR hrow
  have c2:=blk_cell HN2 0
  have f2:=blk_free HN2 0
  have l2:=blk_lt HN2
  simp only [List.getElem?_toArray,List.getElem?_cons_zero] at c2
  go_upto_region 6 with fail
  have k2:=blk_cell (blk_set HN2 0 (.slice A es.length c)) 0
  simp only [List.setIfInBounds_toArray,List.set_cons_zero,List.getElem?_toArray,List.getElem?_cons_zero] at k2
  refine bodyPost_ret (v:=.tuple #[.agg #[.slice A es.length c],.int .i64 0,.int .i64 0]) (by simp [results,Tryz.results39,go_sem,k2]) rfl ?_
  exact ⟨_,rfl,ERow.base (HW.out.turned ((Turned.refl [w.heap.size] _).setCell (by simp) _) (fun g hg hm=>by
    have k1:=(HW.out.lt g hg).1
    simp at hm k1
    omega)) (by simp),HB2.out.setCell (by simp) _⟩
structure Keeps {α:Type} (G:α → World → Nat → Value → Prop):Prop where
 slice:∀ {x w b v},G x w b v → ∃ A n c,v = .slice A n c
 turned:∀ {x w w' b v S},G x w b v → Turned S w w' → (∀ g ∈ S,g < b) → G x w' b v
 base:∀ {x w b b' v},G x w b v → b' ≤ b → G x w b' v
def ImP {α:Type} (G:α → World → Nat → Value → Prop) (q:Nat) (s:Nm) (r:Except Flt (α × Nat)) (w:World) (e:Ending) (w':World):Prop:=match r with
 | .error p=>e = .panicked [{ v:=wrongV p.1 p.2,recovered:=false }] ∧ Turned [q] w w'
 | .ok (x,a)=>∃ v,e = .returned (.agg #[v]) ∧ G x w' w.heap.size v ∧ w'.heap[q]? = some (RdO s a) ∧ Turned [q] w w'
set_option maxHeartbeats 2000000 in
theorem dfrI_panic (b4 b5 b6:Nat) (x4:Value) (x5 x6:Int) (a:Nat) (c:Int) (w:World) (h4:w.heap[b4]? = some (.cells #[x4] 24 (0,0))) (h5:w.heap[b5]? = some (.cells #[.int .i64 x5] 3 (0,0))) (h6:w.heap[b6]? = some (.cells #[.int .i64 x6] 26 (0,0))) (h45:b4 ≠ b5) (h46:b4 ≠ b6) (h56:b5 ≠ b6) :
  CallsD Tryz.prog 79 #[.pointer (some ⟨b4,0,none⟩),.pointer (some ⟨b5,0,none⟩),.pointer (some ⟨b6,0,none⟩)] (.panicking [{ v:=wrongV a c,recovered:=false }]) w fun e u' w'=>e = .returned (.tuple #[]) ∧ u' = .panicking [{ v:=wrongV a c,recovered:=true }] ∧
   w'.heap[b4]? = some (.cells #[.slice none 0 0] 24 (0,0)) ∧ w'.heap[b5]? = some (.cells #[.int .i64 a] 3 (0,0)) ∧ w'.heap[b6]? = some (.cells #[.int .i64 c] 26 (0,0)) ∧ Turned [b4,b5,b6] w w':=by
 have c4:=blk_cell h4 0
 have c5:=blk_cell h5 0
 have c6:=blk_cell h6 0
 have f4:=blk_free h4 0
 have f5:=blk_free h5 0
 have f6:=blk_free h6 0
 have l4:=blk_lt h4
 have l5:=blk_lt h5
 have l6:=blk_lt h6
 have hta:=assert_wrong a c
 refine callsD_of_wpS Tryz.func79 rfl fun c₀ cs hu => ?_
 apply wpS_seq
 apply wpS_region
 simp [wpOpsS,go_sem,recoverD,hu,Tryz.ntmps79,Exit.thenS]
 refine wpS_of_wp ?_
 simp only [Array.replicate_succ,Array.replicate_zero,List.push_toArray,List.nil_append,List.cons_append,List.append_toArray,List.setIfInBounds_toArray,List.set_cons_succ,List.set_cons_zero]
 have hnq:=neq_wrong a c
 clear hu
 go_wp2_with fail
 go_region
 all_goals
  go_wp2_with fail
  have q4:(((((w.setCell ⟨b4,0,none⟩ (.slice none 0 0)).setCell ⟨b5,0,none⟩ (.int .i64 a)).setCell ⟨b6,0,none⟩ (.int .i64 c)).alloc (.cells #[.int .i64 a,.int .i64 c] 139 (0,0))).alloc (.cells #[.slice none 0 0] 24 (0,0))).drew.heap[b4]? = some (.cells #[.slice none 0 0] 24 (0,0)):=
   blk_old (blk_old ((blk_other h46 0 _).trans ((blk_other h45 0 _).trans (blk_set h4 0 _))) _) _
  have q5:(((((w.setCell ⟨b4,0,none⟩ (.slice none 0 0)).setCell ⟨b5,0,none⟩ (.int .i64 a)).setCell ⟨b6,0,none⟩ (.int .i64 c)).alloc (.cells #[.int .i64 a,.int .i64 c] 139 (0,0))).alloc (.cells #[.slice none 0 0] 24 (0,0))).drew.heap[b5]? = some (.cells #[.int .i64 a] 3 (0,0)):=
   blk_old (blk_old ((blk_other h56 0 _).trans (blk_set ((blk_other (Ne.symm h45) 0 _).trans h5) 0 _)) _) _
  have q6:(((((w.setCell ⟨b4,0,none⟩ (.slice none 0 0)).setCell ⟨b5,0,none⟩ (.int .i64 a)).setCell ⟨b6,0,none⟩ (.int .i64 c)).alloc (.cells #[.int .i64 a,.int .i64 c] 139 (0,0))).alloc (.cells #[.slice none 0 0] 24 (0,0))).drew.heap[b6]? = some (.cells #[.int .i64 c] 26 (0,0)):=
   blk_old (blk_old (blk_set ((blk_other (Ne.symm h56) 0 _).trans ((blk_other (Ne.symm h46) 0 _).trans h6)) 0 _) _) _
  have qt:Turned [b4,b5,b6] w (((((w.setCell ⟨b4,0,none⟩ (.slice none 0 0)).setCell ⟨b5,0,none⟩ (.int .i64 a)).setCell ⟨b6,0,none⟩ (.int .i64 c)).alloc (.cells #[.int .i64 a,.int .i64 c] 139 (0,0))).alloc (.cells #[.slice none 0 0] 24 (0,0))).drew:=
   ((((((Turned.refl _ _).setCell (by simp) _).setCell (by simp) _).setCell (by simp) _).alloc _).alloc _).drew
  generalize (((((w.setCell ⟨b4,0,none⟩ (.slice none 0 0)).setCell ⟨b5,0,none⟩ (.int .i64 a)).setCell ⟨b6,0,none⟩ (.int .i64 c)).alloc (.cells #[.int .i64 a,.int .i64 c] 139 (0,0))).alloc (.cells #[.slice none 0 0] 24 (0,0))).drew = wf at *
  simp [bodyPostS,results,Tryz.results79,q4,q5,q6,qt]
theorem dfrI_idle (b4 b5 b6:Nat) (w:World) :
  CallsD Tryz.prog 79 #[.pointer (some ⟨b4,0,none⟩),.pointer (some ⟨b5,0,none⟩),.pointer (some ⟨b6,0,none⟩)] .returning w fun e u' w'=>e = .returned (.tuple #[]) ∧ u' = .returning ∧ w' = w:=by
 refine callsD_of_wpS Tryz.func79 rfl fun c₀ cs hu => ?_
 apply wpS_seq
 apply wpS_region
 simp [wpOpsS,go_sem,recoverD,hu,Tryz.ntmps79,Exit.thenS]
 refine wpS_of_wp ?_
 simp only [Array.replicate_succ,Array.replicate_zero,List.push_toArray,List.nil_append,List.cons_append,List.append_toArray,List.setIfInBounds_toArray,List.set_cons_succ,List.set_cons_zero]
 have hnq:∀ w,(binOp .neq 20 .nilIface .nilIface).run Tryz.prog w = .ok (.bool false) w:=fun w=>by kernel_rfl
 go_wp2_with fail
 cases c₀
 simp_all [bodyPostS,results,Tryz.results79]
def DecG {α:Type} (G:α → World → Nat → Value → Prop) (r:Except Flt α) (w:World) (e:Ending) (w':World):Prop:=match r with
 | .error p=>e = .returned (.tuple #[.agg #[.slice none 0 0],.int .i64 p.1,.int .i64 p.2]) ∧ Below w.heap.size w w'
 | .ok x=>∃ v,e = .returned (.tuple #[.agg #[v],.int .i64 0,.int .i64 0]) ∧ G x w' w.heap.size v ∧ Below w.heap.size w w'
def readG {α:Type} (s:Nm) (R:Except Flt (α × Nat)):Except Flt α:=if 65536 < s.length then .error (0,1311) else match R with
 | .error p=>.error p
 | .ok (x,a)=>if a < s.length then .error (a,1310) else .ok x
set_option maxHeartbeats 4000000 in
theorem readI_any {α:Type} (G:α → World → Nat → Value → Prop) (hG:Keeps G) (s:Nm) (R:Except Flt (α × Nat)) (w:World) (hs:s.length ≤ 1000000000000000000) (hf:∀ (q:Nat) (W:World),W.heap[q]? = some (RdO s 0) → s.length ≤ 65536 → Calls Tryz.prog 41 #[PP q] W (ImP G q s R W)) :
  Calls Tryz.prog 40 #[sv s,.func (.func 41) #[] #[]] w (DecG G (readG s R) w):=by
 have z:=str_size s
 have HF:=Lib.hid hf
 have hmf:∀ (fn:Fn) (first cap:Array Value) (w:World),(Instr.makeFunc fn first cap).run Tryz.prog w = .ok (.func fn first cap) w:=fun _ _ _ _=>rfl
 clear hf
 go_enter_defers Tryz.func40,Tryz.ntmps40
 go_wp2_with fail
 have e1:(w.alloc (.cells #[.slice none 0 0] 24 (0,0))).heap.size = w.heap.size + 1:=by simp
 have e2:((w.alloc (.cells #[.slice none 0 0] 24 (0,0))).alloc (.cells #[.int .i64 0] 3 (0,0))).heap.size = w.heap.size + 1 + 1:=by simp
 have H4:=Lib.hid (blk_old (blk_old (blk_new w (.cells #[.slice none 0 0] 24 (0,0))) (.cells #[.int .i64 0] 3 (0,0))) (.cells #[.int .i64 0] 26 (0,0)))
 have H5:=Lib.hid (blk_old (blk_new (w.alloc (.cells #[.slice none 0 0] 24 (0,0))) (.cells #[.int .i64 0] 3 (0,0))) (.cells #[.int .i64 0] 26 (0,0)))
 have H6:=Lib.hid (blk_new ((w.alloc (.cells #[.slice none 0 0] 24 (0,0))).alloc (.cells #[.int .i64 0] 3 (0,0))) (.cells #[.int .i64 0] 26 (0,0)))
 rw [e1] at H5
 rw [e2] at H6
 have HB:Hid (Below w.heap.size w (((w.alloc (.cells #[.slice none 0 0] 24 (0,0))).alloc (.cells #[.int .i64 0] 3 (0,0))).alloc (.cells #[.int .i64 0] 26 (0,0)))):=(((Below.refl _ _).alloc (Nat.le_refl _) _).alloc (by simp) _).alloc (by simp;omega) _
 clear e1 e2
 change Calls _ _ _ (((w.alloc (.cells #[.slice none 0 0] 24 (0,0))).alloc (.cells #[.int .i64 0] 3 (0,0))).alloc (.cells #[.int .i64 0] 26 (0,0))) _
 generalize (((w.alloc (.cells #[.slice none 0 0] 24 (0,0))).alloc (.cells #[.int .i64 0] 3 (0,0))).alloc (.cells #[.int .i64 0] 26 (0,0))) = w1 at *
 by_cases hbig:65536 < s.length
 ·have hd:decide ((65536:Int) < (s.length:Int)) = true:=decide_eq_true (by omega)
  have HR:Hid (readG s R = .error (0,1311)):=by unfold Hid readG;rw [if_pos hbig]
  rw [hd]
  refine (fail_yes 0 1311 _).mono ?_;rintro e w' ⟨rfl,rfl⟩
  go_wp2_with fail
  refine leaves_cons (f:=79) (args := #[.pointer (some ⟨w.heap.size,0,none⟩),.pointer (some ⟨w.heap.size + 1,0,none⟩),.pointer (some ⟨w.heap.size + 1 + 1,0,none⟩)]) (by simp) (by simp [go_sem]) ?_
  refine (dfrI_panic _ _ _ _ 0 0 0 1311 w1 H4.out H5.out H6.out (by omega) (by omega) (by omega)).mono ?_
  rintro e u' w3 ⟨rfl,rfl,h4,h5,h6,ht⟩
  have c4:=blk_cell h4 0
  have c5:=blk_cell h5 0
  have c6:=blk_cell h6 0
  simp only [List.getElem?_toArray,List.getElem?_cons_zero] at c4 c5 c6
  refine ⟨.tuple #[.agg #[.slice none 0 0],.int .i64 0,.int .i64 1311],by simp [results,Tryz.results40,go_sem,c4,c5,c6],?_⟩
  rw [HR.out]
  exact ⟨rfl,HB.out.trans (ht.below HB.out.size (by simp;omega))⟩
 ·have hd:decide ((65536:Int) < (s.length:Int)) = false:=decide_eq_false (by omega)
  have hsm:s.length ≤ 65536:=by omega
  have hl6:=blk_lt H6.out
  rw [hd]
  refine (fail_no 0 1311 _).mono ?_;rintro e w' ⟨rfl,rfl⟩
  clear hd
  have HRD:=Lib.hid (blk_new w1 (RdO s 0))
  have HB1:Hid (Below w.heap.size w (w1.alloc (RdO s 0))):=HB.out.alloc HB.out.size _
  have K4:=Lib.hid (blk_old H4.out (RdO s 0))
  have K5:=Lib.hid (blk_old H5.out (RdO s 0))
  have K6:=Lib.hid (blk_old H6.out (RdO s 0))
  clear H4 H5 H6 HB
  go_wp2_with fail
  refine (HF.out w1.heap.size _ HRD.out hsm).mono ?_
  intro e w2 hp
  have hszb:=HB1.out.size
  cases R with
  | error p =>
   have HR:Hid (readG s (.error p:Except Flt (α × Nat)) = .error p):=by unfold Hid readG;rw [if_neg hbig]
   obtain ⟨rfl,ht⟩:=hp
   have h4:=ht.kept K4.out (by simp;omega)
   have h5:=ht.kept K5.out (by simp;omega)
   have h6:=ht.kept K6.out (by simp;omega)
   have HB2:Hid (Below w.heap.size w w2):=HB1.out.trans (ht.below HB1.out.size (by simp;omega))
   clear ht
   go_wp2_with fail
   refine leaves_cons (f:=79) (args := #[.pointer (some ⟨w.heap.size,0,none⟩),.pointer (some ⟨w.heap.size + 1,0,none⟩),.pointer (some ⟨w.heap.size + 1 + 1,0,none⟩)]) (by simp) (by simp [go_sem]) ?_
   refine (dfrI_panic _ _ _ _ 0 0 p.1 p.2 w2 h4 h5 h6 (by omega) (by omega) (by omega)).mono ?_
   rintro e u' w9 ⟨rfl,rfl,h4,h5,h6,ht⟩
   have c4:=blk_cell h4 0
   have c5:=blk_cell h5 0
   have c6:=blk_cell h6 0
   simp only [List.getElem?_toArray,List.getElem?_cons_zero] at c4 c5 c6
   refine ⟨.tuple #[.agg #[.slice none 0 0],.int .i64 p.1,.int .i64 p.2],by simp [results,Tryz.results40,go_sem,c4,c5,c6],?_⟩
   rw [HR.out]
   exact ⟨rfl,HB2.out.trans (ht.below HB2.out.size (by simp;omega))⟩
  | ok r =>
   obtain ⟨x,a⟩:=r
   obtain ⟨v,rfl,hrow,hq,ht⟩:=hp
   obtain ⟨A,n,c,rfl⟩:=hG.slice hrow
   have h4:=ht.kept K4.out (by simp;omega)
   have h5:=ht.kept K5.out (by simp;omega)
   have h6:=ht.kept K6.out (by simp;omega)
   have HB2:Hid (Below w.heap.size w w2):=HB1.out.trans (ht.below HB1.out.size (by simp;omega))
   have c4:=blk_cell h4 0
   have f4:=blk_free h4 0
   have l4:=blk_lt h4
   simp only [List.getElem?_toArray,List.getElem?_cons_zero] at c4
   go_upto_region 5 with fail
   change Code.wp _ _ _ _ (w2.setCell ⟨w.heap.size,0,none⟩ (.slice A n c))
   have M4:Hid ((w2.setCell ⟨w.heap.size,0,none⟩ (.slice A n c)).heap[w.heap.size]? = some (.cells #[.slice A n c] 24 (0,0))):=by have:=blk_set h4 0 (.slice A n c);exact this
   have M5:Hid ((w2.setCell ⟨w.heap.size,0,none⟩ (.slice A n c)).heap[w.heap.size + 1]? = some (.cells #[.int .i64 0] 3 (0,0))):=(blk_other (by omega) 0 _).trans h5
   have M6:Hid ((w2.setCell ⟨w.heap.size,0,none⟩ (.slice A n c)).heap[w.heap.size + 1 + 1]? = some (.cells #[.int .i64 0] 26 (0,0))):=(blk_other (by omega) 0 _).trans h6
   have MQ:Hid ((w2.setCell ⟨w.heap.size,0,none⟩ (.slice A n c)).heap[w1.heap.size]? = some (RdO s a)):=(blk_other (by omega) 0 _).trans hq
   have MB:Hid (Below w.heap.size w (w2.setCell ⟨w.heap.size,0,none⟩ (.slice A n c))):=HB2.out.setCell (by simp) _
   have MR:Hid (G x (w2.setCell ⟨w.heap.size,0,none⟩ (.slice A n c)) (w1.alloc (RdO s 0)).heap.size (.slice A n c)):=hG.turned hrow ((Turned.refl [w.heap.size] _).setCell (by simp) _) (fun g hg=>by
    simp at hg ⊢
    omega)
   have hgs:w1.heap.size + 1 = (w1.alloc (RdO s 0)).heap.size:=by simp
   rw [← hgs] at MR
   generalize (w2.setCell ⟨w.heap.size,0,none⟩ (.slice A n c)) = w3 at *
   generalize w1.heap.size = q at *
   clear h4 h5 h6 c4 f4 l4 hrow hq ht HB2 hgs HB1 K4 K5 K6 HRD HF hszb
   have r1:=blk_cell MQ.out 1
   have rl:=blk_lt MQ.out
   simp only [List.getElem?_toArray,List.getElem?_cons_zero,List.getElem?_cons_succ] at r1
   by_cases ha:a < s.length
   ·have HR:Hid (readG s (.ok (x,a)) = .error (a,1310)):=by unfold Hid readG;rw [if_neg hbig];exact if_pos ha
    have d1:decide ((a:Int) < (s.length:Int)) = true:=decide_eq_true (by omega)
    have MBd:Hid (Below w.heap.size w w3.drew):=MB.out.drew
    go_still_tail 11,(by kernel_rfl)
    change wpList _ _ _ _ _ w3.drew
    go_wp2_with fail
    refine (fail_yes a 1310 _).mono ?_;rintro e w' ⟨rfl,rfl⟩
    go_wp2_with fail
    refine leaves_cons (f:=79) (args := #[.pointer (some ⟨w.heap.size,0,none⟩),.pointer (some ⟨w.heap.size + 1,0,none⟩),.pointer (some ⟨w.heap.size + 1 + 1,0,none⟩)]) (by simp) (by simp [go_sem]) ?_
    refine (dfrI_panic _ _ _ _ 0 0 a 1310 w3.drew M4.out M5.out M6.out (by omega) (by omega) (by omega)).mono ?_
    rintro e u' w9 ⟨rfl,rfl,h4,h5,h6,ht⟩
    have c4:=blk_cell h4 0
    have c5:=blk_cell h5 0
    have c6:=blk_cell h6 0
    simp only [List.getElem?_toArray,List.getElem?_cons_zero] at c4 c5 c6
    refine ⟨.tuple #[.agg #[.slice none 0 0],.int .i64 a,.int .i64 1310],by simp [results,Tryz.results40,go_sem,c4,c5,c6],?_⟩
    rw [HR.out]
    exact ⟨rfl,MBd.out.trans (ht.below MBd.out.size (by simp;omega))⟩
   ·have HR:Hid (readG s (.ok (x,a)) = .ok x):=by unfold Hid readG;rw [if_neg hbig];exact if_neg ha
    have d1:decide ((a:Int) < (s.length:Int)) = false:=decide_eq_false (by omega)
    go_still_tail 11,(by kernel_rfl)
    change wpList _ _ _ _ _ w3.drew
    go_wp2_with fail
    refine (fail_no a 1310 _).mono ?_;rintro e w' ⟨rfl,rfl⟩
    have c4:=blk_cell M4.out 0
    have c5:=blk_cell M5.out 0
    have c6:=blk_cell M6.out 0
    have f4:=blk_free M4.out 0
    have f5:=blk_free M5.out 0
    have f6:=blk_free M6.out 0
    have l4:=blk_lt M4.out
    have l5:=blk_lt M5.out
    have l6:=blk_lt M6.out
    simp only [List.getElem?_toArray,List.getElem?_cons_zero] at c4 c5 c6
    go_wp2_with fail
    refine leaves_cons (f:=79) (args := #[.pointer (some ⟨w.heap.size,0,none⟩),.pointer (some ⟨w.heap.size + 1,0,none⟩),.pointer (some ⟨w.heap.size + 1 + 1,0,none⟩)]) (by simp) (by simp [go_sem]) ?_
    refine (dfrI_idle _ _ _ _).mono ?_
    rintro e u' w9 ⟨rfl,rfl,rfl⟩
    refine ⟨.tuple #[.agg #[.slice A n c],.int .i64 0,.int .i64 0],by simp [results,Tryz.results40,go_sem,c4,c5,c6],?_⟩
    rw [HR.out]
    refine ⟨_,rfl,?_,?_⟩
    ·refine hG.base (b:=q + 1) (hG.turned (S := [w.heap.size,w.heap.size + 1,w.heap.size + 1 + 1]) MR.out ((((Turned.refl _ _).drew.setCell (by simp) _).setCell (by simp) _).setCell (by simp) _) (fun g hg => ?_)) (by omega)
     simp at hg
     omega
    ·exact (((MB.out.drew.setCell (by simp) _).setCell (by simp) _).setCell (by simp;omega) _)
end Go.Proofs.YtifhnpkapgaboaaGreat.arch
namespace Go.Proofs.YtifhnpkapgaboaaGreat.arch
open Go.RowKit
open heap
open maps (MapS)
open path (sv str_size)
set_option maxRecDepth 100000
theorem Ground_nil (w:World):Calls Tryz.prog 28 #[.slice none 0 0] w fun e w'=>e = .returned (PP (w.heap.size + 2)) ∧ w'.heap[w.heap.size + 2]? = some (.cells #[.map (some w.heap.size),.map (some (w.heap.size + 1))] 119 (0,0)) ∧ MapS w' w.heap.size [] ∧ MapS w' (w.heap.size + 1) [] ∧ Below w.heap.size w w':=by
 have hmm := @run_makeMap_plain Tryz.prog
 go_enter Tryz.func28,Tryz.ntmps28
 go_wp2_with fail
 have HF:=Lib.hid (blk_new ((w.alloc (.map #[] 0)).alloc (.map #[] 0)) (.cells #[.map (some w.heap.size),.map (some (w.heap.size + 1))] 119 (0,0)))
 have HM1:Hid (MapS (((w.alloc (.map #[] 0)).alloc (.map #[] 0)).alloc (.cells #[.map (some w.heap.size),.map (some (w.heap.size + 1))] 119 (0,0))) w.heap.size []):=⟨#[],0,blk_old (blk_old (blk_new _ _) _) _,rfl⟩
 have HM2:Hid (MapS (((w.alloc (.map #[] 0)).alloc (.map #[] 0)).alloc (.cells #[.map (some w.heap.size),.map (some (w.heap.size + 1))] 119 (0,0))) (w.alloc (.map #[] 0)).heap.size []):=⟨#[],0,blk_old (blk_new _ _) _,rfl⟩
 have HB:Hid (Below w.heap.size w (((w.alloc (.map #[] 0)).alloc (.map #[] 0)).alloc (.cells #[.map (some w.heap.size),.map (some (w.heap.size + 1))] 119 (0,0)))):=(((Below.refl _ _).alloc (Nat.le_refl _) _).alloc (by simp) _).alloc (by simp;omega) _
 simp only [World.size_alloc] at HF HM2
 generalize ((w.alloc (.map #[] 0)).alloc (.map #[] 0)).alloc (.cells #[.map (some w.heap.size),.map (some (w.heap.size + 1))] 119 (0,0)) = w1 at *
 go_loopw [12] (fun v12 wr=>wr = w1 ∧ v12 = .int .i64 0) (fun _ _=>0)
 case atStart=>exact ⟨rfl,rfl⟩
 case round =>
  obtain ⟨rfl,rfl⟩:=hrel
  go_wp2_with fail
  go_ret
  exact ⟨rfl,HF.out,HM1.out,HM2.out,HB.out⟩
end Go.Proofs.YtifhnpkapgaboaaGreat.arch
