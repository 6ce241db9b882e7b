/-
  Proved: what the program's field does where an entry is applied. Conditions: as each theorem says.
  Proved: an image's stream, read and written over a field (plain). Conditions: as each theorem says. No program is in sight.
-/
import Derived.Test.YtifhnpkapgaboaaGreatPi30
import Derived.BigQuiet
import Derived.Test.YtifhnpkapgaboaaGreatPi21
import Derived.Test.YtifhnpkapgaboaaGreatPi29
set_option linter.unusedVariables false
set_option linter.unusedSimpArgs false
namespace Go.Proofs.YtifhnpkapgaboaaGreat.fld
open Go.RowKit
open heap maps
open path (sv str_size)
open arch (Ent entV PP entO e0)
set_option maxRecDepth 100000
theorem field_ent1 (w:World) (a b c d:Value):(Instr.field 58 (.agg #[a,b,c,d]) 1).run Tryz.prog w = .ok b w:=by kernel_rfl
attribute [local go_sem] field_ent1
theorem node_look {w:World} {m:Nat} {l:List (Nm × Ent)} (h:MapB w m (nodeV l)) (p:Nm):(Instr.lookup 116 (.map (some m)) (.string ⟨p.toArray⟩) false).run Tryz.prog w = .ok (entV ((getA p l).getD e0)) w:=by
 rw [run_lookup h.s Tryz.underlying116 Tryz.underlying9 (entV e0) (by kernel_rfl) p,show nodeV l = l.map (fun x=>(x.1,entV x.2)) from rfl,look_get]
 cases getA p l <;> rfl
theorem node_look_ok {w:World} {m:Nat} {l:List (Nm × Ent)} (h:MapB w m (nodeV l)) (p:Nm):(Instr.lookup 116 (.map (some m)) (.string ⟨p.toArray⟩) true).run Tryz.prog w = .ok (.tuple #[entV ((getA p l).getD e0),.bool (getA p l).isSome]) w:=by
 rw [run_lookup_ok h.s Tryz.underlying116 Tryz.underlying9 (entV e0) (by kernel_rfl) p,show nodeV l = l.map (fun x=>(x.1,entV x.2)) from rfl,look_get,look_is]
 cases getA p l <;> rfl
def ApP (f m k:Nat) (F:Fld) (r:Option Fld) (w:World) (e:Ending) (w':World):Prop:=match r with
 | none=>e = .returned (.bool false) ∧ FldP w' f m k F ∧ Turned [m,k] w w'
 | some F'=>e = .returned (.bool true) ∧ FldP w' f m k F' ∧ Turned [m,k] w w'
set_option maxHeartbeats 4000000 in
theorem Apply_any (w:World) (f m k:Nat) (F:Fld) (e:Ent) (h:FldP w f m k F) (hp:e.path.length ≤ 1000000000) :
  Calls Tryz.prog 30 #[PP f,entV e] w (ApP f m k F (applyF F e) w):=by
 have HF:=Lib.hid h
 have HX:=Lib.hid (blk_new w (entO e))
 have HF1:=Lib.hid (h.below ((Below.refl _ _).alloc (Nat.le_refl _) (entO e)))
 have HT:Hid (Turned [m,k] w (w.alloc (entO e))):=(Turned.refl _ _).alloc _
 have hfl:=blk_lt h.blk
 have hml:=h.nodes.lt
 have hkl:=h.kids.lt
 clear h
 obtain ⟨R,hR⟩:∃ R,applyF F e = R:=⟨_,rfl⟩
 rw [hR]
 have HD:=Lib.hid hR
 clear hR
 unfold applyF at HD
 go_enter Tryz.func30,Tryz.ntmps30
 go_upto_region 1 with fail
 change Code.wp _ _ _ _ (w.alloc (entO e))
 have e1:(w.alloc (entO e)).heap.size = w.heap.size + 1:=by simp
 generalize w.alloc (entO e) = w1 at *
 have x0:=blk_cell (HX.out) 0
 have x1:=blk_cell (HX.out) 1
 have x2:=blk_cell (HX.out) 2
 have x3:=blk_cell (HX.out) 3
 have xl:=blk_lt (HX.out)
 simp only [List.getElem?_toArray,List.getElem?_cons_zero,List.getElem?_cons_succ] at x0 x1 x2 x3
 have c0:=blk_cell HF1.out.blk 0
 have cl:=blk_lt HF1.out.blk
 simp only [List.getElem?_toArray,List.getElem?_cons_zero] at c0
 have HAB:=Lib.hid (above_any e.path w1 hp)
 go_wp2_with fail
 refine HAB.out.mono ?_;rintro r w1 ⟨rfl,rfl⟩
 have hlk:=node_look HF1.out.nodes (aboveP e.path)
 generalize hup:aboveP e.path = up at *
 generalize hku:(getA up F.nodes).getD e0 = eu at *
 go_upto_region 2 with fail
 obtain ⟨B,hB⟩:∃ B,(!up.isEmpty && eu.kind != 1) = B:=⟨_,rfl⟩
 have HB:=Lib.hid hB
 clear hB
 go_cut [22] from 11 to 21 (fun v wc=>v = .bool B ∧ wc = w1)
 case first =>
  cases hie:up.isEmpty with
  | true =>
   have:B = false:=by rw [← HB.out,hie];rfl
   subst this
   go_wp2_with fail
   go_meet
   case rel=>exact ⟨rfl,rfl⟩
  | false =>
   have hk1:(eu.kind != 1) = B:=by rw [← HB.out,hie];rfl
   go_wp2_with fail
   go_meet
   case rel=>exact ⟨by simp,rfl⟩
 case rest =>
 obtain ⟨rfl,rfl⟩:=hcut
 cases B with
 | true =>
  have h1:up ≠ [] ∧ eu.kind ≠ 1:=by simpa using HB.out
  rw [if_pos h1] at HD
  go_wp2_with fail
  go_ret
  rw [← HD.out]
  exact ⟨rfl,HF1.out,HT.out⟩
 | false =>
 have h1:¬ (up ≠ [] ∧ eu.kind ≠ 1):=fun h=>by
  have:(!up.isEmpty && eu.kind != 1) = true:=by simpa using h
  rw [HB.out] at this
  cases this
 rw [if_neg h1] at HD
 clear h1 HB
 clear hlk HAB
 generalize hold:(getA e.path F.nodes).getD e0 = old at *
 generalize his:(getA e.path F.nodes).isSome = is at *
 have hlkA:=node_look_ok (HF1.out.nodes.turned (Turned.refl [] _).drew (by simp)) e.path
 have hlkB:=node_look_ok (HF1.out.nodes.turned (((Turned.refl [] wc).alloc (.cells #[.string ⟨#[]⟩,.int .i64 0,.int .i64 0,.string ⟨#[]⟩] 58 (0,0))).drew) (by simp)) e.path
 have hlkC:=node_look_ok (HF1.out.nodes.turned (((Turned.refl [] wc).drew).alloc (.cells #[.string ⟨#[]⟩,.int .i64 0,.int .i64 0,.string ⟨#[]⟩] 58 (0,0))) (by simp)) e.path
 rw [hold,his] at hlkA hlkB hlkC
 go_upto_region 4 with fail
 go_cut [6,7] from 23 to 32 (fun v6 v7 w2=>v6 = PP (w.heap.size + 1) ∧ v7 = .bool is ∧ Hid (FldP w2 f m k F) ∧ Hid (w2.heap[w.heap.size]? = some (entO e)) ∧ Hid (w2.heap[w.heap.size + 1]? = some (entO old)) ∧ Hid (Turned [m,k] w w2))
 case first =>
  have hn:=blk_new wc (entO old)
  rw [e1] at hn
  go_region
  all_goals
   go_wp2_with fail
   go_meet
   case rel =>
    refine ⟨rfl,rfl,HF1.out.turned (((Turned.refl [] wc).alloc _).drew) (by simp) (by simp) (by simp),?_,?_,(HT.out.alloc _).drew⟩
    ·exact blk_old HX.out _
    ·exact hn
 case rest =>
 obtain ⟨rfl,rfl,HF2,HX2,HO2,HT2⟩:=hcut
 clear hlkA hlkB hlkC HF HF1 HX HT c0 cl x0 x1 x2 x3 xl e1
 generalize wc = w2 at *
 have x0:=blk_cell (HX2.out) 0
 have x1:=blk_cell (HX2.out) 1
 have x2:=blk_cell (HX2.out) 2
 have x3:=blk_cell (HX2.out) 3
 have xl:=blk_lt (HX2.out)
 simp only [List.getElem?_toArray,List.getElem?_cons_zero,List.getElem?_cons_succ] at x0 x1 x2 x3
 have o0:=blk_cell (HO2.out) 0
 have o1:=blk_cell (HO2.out) 1
 have o2:=blk_cell (HO2.out) 2
 have o3:=blk_cell (HO2.out) 3
 have ol:=blk_lt (HO2.out)
 simp only [List.getElem?_toArray,List.getElem?_cons_zero,List.getElem?_cons_succ] at o0 o1 o2 o3
 have of2:=blk_free HO2.out 2
 have c0:=blk_cell HF2.out.blk 0
 have cl:=blk_lt HF2.out.blk
 simp only [List.getElem?_toArray,List.getElem?_cons_zero] at c0
 cases hk4:(e.kind == 4) with
 | true =>
  have hk:e.kind = 4:=by simpa using hk4
  cases is with
  | false =>
   rw [if_pos ⟨hk,rfl⟩] at HD
   go_wp2_with fail
   go_ret
   rw [← HD.out]
   exact ⟨rfl,HF2.out,HT2.out⟩
  | true =>
   rw [if_neg (by simp),if_neg (by omega),if_pos hk,if_pos rfl] at HD
   have hk1:(e.kind == 1) = false:=by rw [beq_eq_false_iff_ne];omega
   have HGN:=Lib.hid (gone_any w2 f m k F e.path HF2.out hp)
   go_wp2_with fail
   refine HGN.out.mono ?_;rintro r w3 ⟨rfl,hf3,ht3⟩
   have HX3:=ht3.kept HX2.out (by simp;omega)
   have HT3:=Lib.hid (HT2.out.trans ht3)
   have HF3:=Lib.hid hf3
   clear x0 x1 x2 x3 xl hf3 ht3 c0 cl o0 o1 o2 o3 ol of2
   have x0:=blk_cell (HX3) 0
   have x1:=blk_cell (HX3) 1
   have x2:=blk_cell (HX3) 2
   have x3:=blk_cell (HX3) 3
   have xl:=blk_lt (HX3)
   simp only [List.getElem?_toArray,List.getElem?_cons_zero,List.getElem?_cons_succ] at x0 x1 x2 x3
   go_wp2_with fail
   go_ret
   rw [← HD.out]
   exact ⟨rfl,HF3.out,HT3.out⟩
 | false =>
 have hk:¬ e.kind = 4:=by simpa using hk4
 rw [if_neg (fun h=>hk h.1)] at HD
 cases h3:(e.kind == 1 && old.kind == 1) with
 | true =>
  have h31:(e.kind == 1) = true:=by cases h:(e.kind == 1) <;> simp [h] at h3 ⊢
  have h32:(old.kind == 1) = true:=by cases h:(old.kind == 1) <;> simp [h] at h3 ⊢
  rw [if_pos ⟨by simpa using h31,by simpa using h32⟩] at HD
  go_upto_region 9 with fail
  have HO3:=Lib.hid (blk_set HO2.out 2 (.int .i64 e.mode))
  have HX3:=Lib.hid ((blk_other (show w.heap.size ≠ w.heap.size + 1 by omega) 2 (.int .i64 e.mode)).trans HX2.out)
  have ht3:Turned [w.heap.size + 1] w2 (w2.setCell ⟨w.heap.size + 1,2,none⟩ (.int .i64 e.mode)):=(Turned.refl _ _).setCell (by simp) _
  have HF3:=Lib.hid (HF2.out.turned ht3 (by simp;omega) (by simp;omega) (by simp;omega))
  have HT3:=Lib.hid (tur_new HT2.out ht3 (by simp))
  generalize (w2.setCell ⟨w.heap.size + 1,2,none⟩ (.int .i64 e.mode)) = w3 at *
  clear x0 x1 x2 x3 xl o0 o1 o2 o3 ol of2 c0 cl ht3 HF2 HX2 HO2 HT2
  have x0:=blk_cell (HX3.out) 0
  have x1:=blk_cell (HX3.out) 1
  have x2:=blk_cell (HX3.out) 2
  have x3:=blk_cell (HX3.out) 3
  have xl:=blk_lt (HX3.out)
  simp only [List.getElem?_toArray,List.getElem?_cons_zero,List.getElem?_cons_succ] at x0 x1 x2 x3
  have o0:=blk_cell HO3.out 0
  have o1:=blk_cell HO3.out 1
  have o2:=blk_cell HO3.out 2
  have o3:=blk_cell HO3.out 3
  have ol:=blk_lt HO3.out
  simp only [List.setIfInBounds_toArray,List.set_cons_succ,List.set_cons_zero,List.getElem?_toArray,List.getElem?_cons_zero,List.getElem?_cons_succ] at o0 o1 o2 o3
  have c0:=blk_cell HF3.out.blk 0
  have cl:=blk_lt HF3.out.blk
  simp only [List.getElem?_toArray,List.getElem?_cons_zero] at c0
  have HND:Hid (MapB w3.drew m (nodeV F.nodes)):=HF3.out.nodes.turned (Turned.refl [] _).drew (by simp)
  go_still_tail 7,(by kernel_rfl)
  change wpList _ _ _ _ _ w3.drew
  refine wpList_updateB (v:=entV { old with mode:=e.mode }) rfl rfl Tryz.underlying116 Tryz.underlying9 rfl rfl rfl HND.out ?_
  intro w4 hm' ht'
  have hT4:Turned [m] w3 w4:=((Turned.refl [m] w3).drew).trans ht'
  have hmap:=upd_map entV e.path { old with mode:=e.mode } F.nodes
  have hm4:MapB w4 m (nodeV (updA e.path { old with mode:=e.mode } F.nodes)):=by
   rw [show nodeV (updA e.path { old with mode:=e.mode } F.nodes) = upd e.path (entV { old with mode:=e.mode }) (nodeV F.nodes) from hmap.symm];exact hm'
  have HF4:Hid (FldP w4 f m k ⟨updA e.path { old with mode:=e.mode } F.nodes,F.kids⟩):=⟨hT4.kept HF3.out.blk (by simp;exact HF3.out.fm),hm4,HF3.out.kids.turned hT4 (by simp;exact fun e=>HF3.out.ne e.symm),HF3.out.ne⟩
  have HT4:Hid (Turned [m,k] w w4):=HT3.out.trans (hT4.mono (by simp))
  clear hm' ht' hT4 hmap hm4
  go_wp2_with fail
  go_ret
  rw [← HD.out]
  exact ⟨rfl,HF4.out,HT4.out⟩
 | false =>
  rw [if_neg (fun h=>by rw [h.1,h.2] at h3;cases h3),if_neg hk] at HD
  go_upto_region 7 with fail
  go_cut [47] from 40 to 46 (fun v wc=>v = .bool false ∧ wc = w2)
  case first =>
   cases h31:(e.kind == 1) with
   | true =>
    have h32:(old.kind == 1) = false:=by rw [h31] at h3;simpa using h3
    go_wp2_with fail
    go_meet
    case rel=>exact ⟨rfl,rfl⟩
   | false =>
    go_wp2_with fail
    go_meet
    case rel=>exact ⟨rfl,rfl⟩
  case rest =>
  obtain ⟨rfl,rfl⟩:=hcut
  generalize wc = w2 at *
  go_upto_if 58 with fail
  generalize hF1:(if is = true then goneF F e.path else F) = F1 at *
  go_cut [58] from 59 to 62 (fun _ wc=>Hid (FldP wc f m k F1) ∧ Hid (wc.heap[w.heap.size]? = some (entO e)) ∧ Hid (Turned [m,k] w wc))
  case first =>
   cases is with
   | true =>
    have hg:goneF F e.path = F1:=by rw [← hF1];rfl
    have HGN:=Lib.hid (gone_any w2 f m k F e.path HF2.out hp)
    rw [hg] at HGN
    go_wp2_with fail
    refine HGN.out.mono ?_;rintro r w3 ⟨rfl,hf3,ht3⟩
    have HX3:=Lib.hid (ht3.kept HX2.out (by simp;omega))
    have HT3:=Lib.hid (HT2.out.trans ht3)
    have HF3:=Lib.hid hf3
    clear hf3 ht3
    go_wp2_with fail
    go_meet
    case rel=>exact ⟨HF3,HX3,HT3⟩
   | false =>
    have hg:F = F1:=by rw [← hF1];rfl
    subst hg
    go_wp2_with fail
    go_meet
    case rel=>exact ⟨HF2,HX2,HT2⟩
  case rest =>
  obtain ⟨HF3,HX3,HT3⟩:=hcut
  clear x0 x1 x2 x3 xl o0 o1 o2 o3 ol of2 c0 cl HF2 HX2 HO2 HT2 hF1
  generalize wc = w3 at *
  have x0:=blk_cell (HX3.out) 0
  have x1:=blk_cell (HX3.out) 1
  have x2:=blk_cell (HX3.out) 2
  have x3:=blk_cell (HX3.out) 3
  have xl:=blk_lt (HX3.out)
  simp only [List.getElem?_toArray,List.getElem?_cons_zero,List.getElem?_cons_succ] at x0 x1 x2 x3
  have xf1:=blk_free HX3.out 1
  cases hk5:(e.kind == 5) with
  | true =>
   have hk:e.kind = 5:=by simpa using hk5
   rw [if_pos hk] at HD
   have HX4:=Lib.hid (blk_set HX3.out 1 (.int .i64 1))
   have ht4:Turned [w.heap.size] w3 (w3.setCell ⟨w.heap.size,1,none⟩ (.int .i64 1)):=(Turned.refl _ _).setCell (by simp) _
   have HF4:=Lib.hid (HF3.out.turned ht4 (by simp;omega) (by simp;omega) (by simp;omega))
   have HT4:=Lib.hid (tur_new HT3.out ht4 (by simp))
   go_upto_region 18 with fail
   generalize (w3.setCell ⟨w.heap.size,1,none⟩ (.int .i64 1)) = w4 at *
   clear x0 x1 x2 x3 xl xf1 ht4 HF3 HX3 HT3
   have x0:=blk_cell HX4.out 0
   have x1:=blk_cell HX4.out 1
   have x2:=blk_cell HX4.out 2
   have x3:=blk_cell HX4.out 3
   have xl:=blk_lt HX4.out
   simp only [List.setIfInBounds_toArray,List.set_cons_succ,List.set_cons_zero,List.getElem?_toArray,List.getElem?_cons_zero,List.getElem?_cons_succ] at x0 x1 x2 x3
   have HPU:=Lib.hid (put_any w4 f m k F1 { e with kind:=1 } HF4.out hp)
   go_wp2_with fail
   refine HPU.out.mono ?_;rintro r w5 ⟨rfl,hf5,ht5⟩
   have HT5:=Lib.hid (HT4.out.trans ht5)
   have HF5:=Lib.hid hf5
   clear hf5 ht5
   go_wp2_with fail
   go_ret
   rw [← HD.out]
   exact ⟨rfl,HF5.out,HT5.out⟩
  | false =>
   have hk5':¬ e.kind = 5:=by simpa using hk5
   rw [if_neg hk5'] at HD
   have HPU:=Lib.hid (put_any w3 f m k F1 e HF3.out hp)
   go_wp2_with fail
   refine HPU.out.mono ?_;rintro r w5 ⟨rfl,hf5,ht5⟩
   have HT5:=Lib.hid (HT3.out.trans ht5)
   have HF5:=Lib.hid hf5
   clear hf5 ht5
   go_wp2_with fail
   go_ret
   rw [← HD.out]
   exact ⟨rfl,HF5.out,HT5.out⟩
end Go.Proofs.YtifhnpkapgaboaaGreat.fld
namespace Go.Proofs.YtifhnpkapgaboaaGreat.arch
open Go Go.RowKit
open path (cleanB belowB)
open fld (Fld applyF Sk apply_sk)
def hd (e:Ent):Ent:=⟨e.path,e.kind,0,[]⟩
def F0:Fld:=⟨[],[]⟩
def maysI:List (List Ent) → Nat → Option (Int × Int)
 | [],_=>none
 | es :: r,n=>if (formL es).2 ≠ 0 then some (n + (formL es).1,(formL es).2) else maysI r (n + es.length)
def appsL:Fld → List Ent → Nat → Except (Int × Int) (Fld × Nat)
 | F,[],t=>.ok (F,t)
 | F,e :: r,t=>match applyF F e with
  | none=>.error (t,1305)
  | some F'=>appsL F' r (t + 1)
def appsI:Fld → List (List Ent) → Nat → Except (Int × Int) Unit
 | _,[],_=>.ok ()
 | F,es :: r,t=>match appsL F es t with
  | .error p=>.error p
  | .ok (F',t')=>if 128 < F'.nodes.length then .error ((t':Int) - 1,1309) else appsI F' r t'
def outI (ls:List (List Ent)):Nm:=mkI ++ ([UInt8.ofNat ls.length] ++ (ls.map streamL).flatten)
def encI (ls:List (List Ent)):Nm × Int × Int:=
 if 12 < ls.length then ([],0,1309)
 else match maysI ls 0 with
 | some p=>([],p.1,p.2)
 | none=>match appsI F0 ls 0 with
  | .error p=>([],p.1,p.2)
  | .ok _=>if 65536 < (outI ls).length then ([],0,1311) else (outI ls,0,0)
end Go.Proofs.YtifhnpkapgaboaaGreat.arch
