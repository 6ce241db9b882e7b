/-
  Proved: what the program's EncodeImage does. Conditions: as each theorem says.
-/
import Derived.Test.YtifhnpkapgaboaaGreatPi35
import Derived.Test.YtifhnpkapgaboaaGreatPi36
import Derived.Test.YtifhnpkapgaboaaGreatPi37
set_option linter.unusedVariables false
set_option linter.unusedSimpArgs false
namespace Go.Proofs.YtifhnpkapgaboaaGreat.arch
open Go.RowKit
open heap
open path (sv str_size)
open fld (Fld FldP applyF ApP Apply_any Many_any tur_new)
set_option maxRecDepth 100000
theorem May_in (es:List Ent) (A:Option Addr) (c:Nat) (w:World) (h:EIn w A c es) (hcm:c ≤ 9223372036854775807) (hp:∀ x ∈ es,big x) :
  Calls Tryz.prog 27 #[.agg #[.slice A es.length c]] w fun r w'=>r = .returned (.tuple #[.int .i64 (formL es).1,.int .i64 (formL es).2]) ∧ Below w.heap.size w w':=by
 obtain ⟨hc,rfl | ⟨b,o,rfl,hE⟩⟩:=h
 ·exact May_none A c w
 ·exact MayW_any es b o c w hE hc hcm hp
theorem Laid_in (es:List Ent) (A:Option Addr) (c:Nat) (w:World) (h:EIn w A c es) (hcm:c ≤ 9223372036854775807) (hf:(formL es).2 = 0) :
  Calls Tryz.prog 32 #[.agg #[.slice A es.length c]] w fun r w'=>r = .returned (sv (streamL es)) ∧ Below w.heap.size w w':=by
 obtain ⟨hc,rfl | ⟨b,o,rfl,hE⟩⟩:=h
 ·exact Laid_none A c w
 ·exact Laid_any es b o c w hE hc hcm hf
def LIn (w:World) (A:Option Addr) (c:Nat) (ls:List (List Ent)):Prop:=ls.length ≤ c ∧ (ls = [] ∨ ∃ b o,A = some ⟨b,o,none⟩ ∧ ∀ (i:Nat) (es:List Ent),ls[i]? = some es → ∃ Ai ci,w.cell? ⟨b,o + i,none⟩ = some (.slice Ai es.length ci) ∧ EIn w Ai ci es ∧ ci ≤ 9223372036854775807)
theorem cell_below {w w':World} (hb:Below w.heap.size w w') {a:Addr} {v:Value} (h:w.cell? a = some v):w'.cell? a = some v:=(Turned.of_below (S := []) hb).cell h (by simp)
theorem LIn.below {w w':World} {A:Option Addr} {c:Nat} {ls:List (List Ent)} (h:LIn w A c ls) (hb:Below w.heap.size w w'):LIn w' A c ls:=
 ⟨h.1,h.2.imp id fun ⟨b,o,h1,h2⟩=>⟨b,o,h1,fun i es hi=>by
  obtain ⟨Ai,ci,k1,k2,k3⟩:=h2 i es hi
  exact ⟨Ai,ci,cell_below hb k1,k2.below hb,k3⟩⟩⟩
theorem ERow.ein {w:World} {base:Nat} {v:Value} {es:List Ent} (h:ERow w base v es):∃ A c,v = .slice A es.length c ∧ EIn w A c es ∧ c ≤ 9223372036854775807:=by
 obtain ⟨A,g,c,rfl,h1,h2,h3,h4⟩:=h.slice
 refine ⟨A,c,rfl,⟨h1,?_⟩,h2⟩
 by_cases h0:es = []
 ·exact .inl h0
 ·exact .inr ⟨g,0,(h3 h0).1,h4⟩
theorem LRow.lin {w:World} {base:Nat} {v:Value} {ls:List (List Ent)} {vs:List Value} (h:LRow w base v ls vs):∃ A c,v = .slice A ls.length c ∧ LIn w A c ls ∧ c ≤ 9223372036854775807:=by
 obtain ⟨A,g,c,rfl,h1,h2,h3,h4⟩:=h.slice
 refine ⟨A,c,rfl,⟨h1,?_⟩,h2⟩
 by_cases h0:ls = []
 ·exact .inl h0
 ·refine .inr ⟨g,0,(h3 h0).1,fun i es hi => ?_⟩
  obtain ⟨u,k1,k2⟩:=h.inn i es hi
  obtain ⟨Ai,ci,rfl,q2,q3⟩:=k2.ein
  exact ⟨Ai,ci,by rw [Nat.zero_add];exact h4 i _ k1,q2,q3⟩
theorem formG_fst (es:List Ent):∀ (f i:Nat),0 ≤ (formG es f i).1 ∧ (formG es f i).1 ≤ i + f
 | 0,i=>by rw [formG];simp
 | f + 1,i=>by
  rw [formG]
  split
  ·have:=formG_fst es f (i + 1);omega
  ·simp;omega
theorem formL_fst (es:List Ent):0 ≤ (formL es).1 ∧ (formL es).1 ≤ 256:=by
 unfold formL
 split
 ·simp
 ·have:=formG_fst es es.length 0;omega
theorem stream_len {es:List Ent} (h:(formL es).2 = 0):(streamL es).length ≤ 300000:=by
 obtain ⟨h1,h2⟩:=form_ok h
 have:=body_len es (fun x hx=>⟨(h2 x hx).2.2.2.1,(h2 x hx).2.2.2.2.2.2⟩) es.length (Nat.le_refl _)
 rw [List.take_length] at this
 unfold streamL
 simp
 omega
theorem flat_len:∀ (ls:List (List Ent)),(∀ es ∈ ls,(formL es).2 = 0) → ((ls.map streamL).flatten).length ≤ 300000 * ls.length
 | [],_=>by simp
 | es :: r,h=>by
  have h1:=stream_len (h es (List.mem_cons_self ..))
  have h2:=flat_len r fun x hx=>h x (List.mem_cons_of_mem _ hx)
  simp only [List.map_cons,List.flatten_cons,List.length_append,List.length_cons]
  omega
def accI (ls:List (List Ent)) (i:Nat):Nm:=mkI ++ ([UInt8.ofNat ls.length] ++ ((ls.take i).map streamL).flatten)
theorem acc_snoc (ls:List (List Ent)) (i:Nat) (es:List Ent) (h:ls[i]? = some es):accI ls i ++ streamL es = accI ls (i + 1):=by
 unfold accI
 rw [List.take_add_one,h]
 simp
theorem acc_all (ls:List (List Ent)):accI ls ls.length = outI ls:=by unfold accI outI;rw [List.take_length]
theorem acc_len (ls:List (List Ent)) (i:Nat) (h:∀ es ∈ ls,(formL es).2 = 0) (hl:ls.length ≤ 12):(accI ls i).length ≤ 4000000:=by
 have:=flat_len (ls.take i) fun x hx=>h x (List.mem_of_mem_take hx)
 rw [List.length_take] at this
 unfold accI mkI
 simp only [List.length_append,List.length_cons,List.length_nil]
 omega
theorem mays_drop (ls:List (List Ent)) (i t:Nat) (es:List Ent) (h:ls[i]? = some es):maysI (ls.drop i) t = if (formL es).2 ≠ 0 then some (t + (formL es).1,(formL es).2) else maysI (ls.drop (i + 1)) (t + es.length):=by
 obtain ⟨hi,rfl⟩:=List.getElem?_eq_some_iff.1 h
 rw [List.drop_eq_getElem_cons hi,maysI]
def restI (F:Fld) (es:List Ent) (ls:List (List Ent)) (t:Nat):Except (Int × Int) Unit:=match appsL F es t with
 | .error p=>.error p
 | .ok (F',t')=>if 128 < F'.nodes.length then .error ((t':Int) - 1,1309) else appsI F' ls t'
theorem apps_drop (F:Fld) (ls:List (List Ent)) (i t:Nat) (es:List Ent) (h:ls[i]? = some es):appsI F (ls.drop i) t = restI F (es.drop 0) (ls.drop (i + 1)) t:=by
 obtain ⟨hi,rfl⟩:=List.getElem?_eq_some_iff.1 h
 rw [List.drop_eq_getElem_cons hi,appsI,List.drop_zero]
 rfl
theorem rest_drop (F:Fld) (es:List Ent) (ls:List (List Ent)) (j t:Nat) (e:Ent) (h:es[j]? = some e):restI F (es.drop j) ls t = match applyF F e with
  | none=>.error (t,1305)
  | some F'=>restI F' (es.drop (j + 1)) ls (t + 1):=by
 obtain ⟨hi,rfl⟩:=List.getElem?_eq_some_iff.1 h
 unfold restI
 rw [List.drop_eq_getElem_cons hi,appsL]
 cases applyF F es[j] <;> rfl
theorem rest_end (F:Fld) (es:List Ent) (ls:List (List Ent)) (t:Nat):restI F (es.drop es.length) ls t = if 128 < F.nodes.length then .error ((t:Int) - 1,1309) else appsI F ls t:=by
 rw [List.drop_length];rfl
def endI (ls:List (List Ent)) (x:Except (Int × Int) Unit):Nm × Int × Int:=match x with
 | .error p=>([],p.1,p.2)
 | .ok _=>if 65536 < (outI ls).length then ([],0,1311) else (outI ls,0,0)
theorem enc_end {ls:List (List Ent)} (h:ls.length ≤ 12) (hm:maysI ls 0 = none):encI ls = endI ls (appsI F0 ls 0):=by
 unfold encI
 rw [if_neg (by omega),hm]
 rfl
set_option maxHeartbeats 8000000 in
theorem EncodeImage_any (ls:List (List Ent)) (A:Option Addr) (c:Nat) (w:World) (h:LIn w A c ls) (hcm:c ≤ 9223372036854775807) (hp:∀ es ∈ ls,∀ x ∈ es,big x) :
  Calls Tryz.prog 8 #[.agg #[.slice A ls.length c]] w fun e w'=>e = .returned (.tuple #[sv (encI ls).1,.int .i64 (encI ls).2.1,.int .i64 (encI ls).2.2]) ∧ Below w.heap.size w w':=by
 have HI:=Lib.hid (blk_new w (.cells #[.slice A ls.length c] 24 (0,0)))
 have HB:Hid (Below w.heap.size w (w.alloc (.cells #[.slice A ls.length c] 24 (0,0)))):=(Below.refl _ _).alloc (Nat.le_refl _) _
 have HL:=Lib.hid (h.below HB.out)
 have hlc:=h.1
 have HP:=Lib.hid hp
 clear h hp
 obtain ⟨R,hR⟩:∃ R,encI ls = R:=⟨_,rfl⟩
 rw [hR]
 by_cases h12:12 < ls.length
 ·have d1:decide ((12:Int) < (ls.length:Int)) = true:=decide_eq_true (by omega)
  have hR2:R = ([],0,1309):=by rw [← hR];unfold encI;rw [if_pos h12]
  subst hR2
  clear hR
  go_enter Tryz.func8,Tryz.ntmps8
  go_wp2_with fail
  go_ret3
  exact ⟨rfl,HB.out⟩
 have d1:decide ((12:Int) < (ls.length:Int)) = false:=decide_eq_false (by omega)
 have h12':ls.length ≤ 12:=by omega
 clear h12
 have HR:=Lib.hid hR
 clear hR
 go_enter Tryz.func8,Tryz.ntmps8
 go_wp2_with fail
 change Code.wp _ _ _ _ (w.alloc (.cells #[.slice A ls.length c] 24 (0,0)))
 generalize w.alloc (.cells #[.slice A ls.length c] 24 (0,0)) = w1 at *
 clear d1
 go_loopg [5,23] ls.length (fun kk v5 v23 wr=>∃ i t:Nat,i + kk = ls.length ∧ v5 = .int .i64 t ∧ v23 = .int .i64 i ∧ t ≤ 256 * i ∧ Hid (maysI ls 0 = maysI (ls.drop i) t) ∧ Hid (Below w1.heap.size w1 wr))
 case atStart=>exact ⟨0,0,by omega,rfl,rfl,by omega,rfl,Below.refl _ _⟩
 case round =>
  obtain ⟨i,t,hik,rfl,rfl,hti,HM,HW⟩:=hrel
  by_cases hlt:i < ls.length
  ·obtain ⟨gk,rfl⟩:∃ g,gk = g + 1:=⟨gk - 1,by omega⟩
   obtain ⟨es,hes⟩:∃ es,ls[i]? = some es:=⟨_,List.getElem?_eq_getElem hlt⟩
   have hne:ls ≠ []:=fun e=>by rw [e] at hlt;simp at hlt
   obtain ⟨-,h0 | ⟨b,o,rfl,hL⟩⟩:=HL.out
   ·exact absurd h0 hne
   obtain ⟨Ai,ci,hc1,hE,hci⟩:=hL i es hes
   have hc2:=cell_below HW.out hc1
   have HMD:=Lib.hid (mays_drop ls i t es hes)
   have HNEW:=Lib.hid (blk_new wr (.cells #[.slice Ai es.length ci] 44 (0,0)))
   have HBA:Hid (Below wr.heap.size wr (wr.alloc (.cells #[.slice Ai es.length ci] 44 (0,0)))):=(Below.refl _ _).alloc (Nat.le_refl _) _
   have HW4:Hid (Below w1.heap.size w1 (wr.alloc (.cells #[.slice Ai es.length ci] 44 (0,0)))):=HW.out.trans (HBA.out.mono HW.out.size)
   have HMY:=Lib.hid (May_in es Ai ci _ (hE.below HW4.out) hci (HP.out es (List.mem_of_getElem? hes)))
   obtain ⟨f1,f2⟩:=formL_fst es
   have HLN:Hid ((formL es).2 = 0 → es.length ≤ 256):=fun h=>(form_ok h).1
   generalize (formL es).1 = a1 at *
   generalize (formL es).2 = a2 at *
   have hii:(i:Int) < (ls.length:Int):=by omega
   have hic:(i:Int) ≤ (c:Int):=by omega
   clear hc1 hL hE hes
   go_upto_region 7 with fail
   change Code.wp _ _ _ _ (wr.alloc (.cells #[.slice Ai es.length ci] 44 (0,0)))
   generalize (wr.alloc (.cells #[.slice Ai es.length ci] 44 (0,0))) = w4 at *
   generalize wr.heap.size = b7 at *
   clear hc2
   have q0:=blk_cell HNEW.out 0
   have ql:=blk_lt HNEW.out
   simp only [List.getElem?_toArray,List.getElem?_cons_zero] at q0
   go_wp2_with fail
   refine HMY.out.mono ?_;rintro r w5 ⟨rfl,hb⟩
   have HNEW5:=Lib.hid (blk_below HNEW.out hb)
   have HW5:Hid (Below w1.heap.size w1 w5):=HW4.out.trans (hb.mono HW4.out.size)
   clear hb HMY HNEW HW4 HBA HW q0 ql
   have q0:=blk_cell HNEW5.out 0
   have ql:=blk_lt HNEW5.out
   simp only [List.getElem?_toArray,List.getElem?_cons_zero] at q0
   by_cases h2:a2 = 0
   ·have hn:=HLN.out h2
    have hmd:=HMD.out
    rw [if_neg (by simp [h2])] at hmd
    have HM2:=Lib.hid (HM.out.trans hmd)
    subst h2
    clear hmd HMD HM HLN
    go_wp2_with fail
    go_roundg gk
    case rel=>exact ⟨i + 1,t + es.length,by omega,by go_num,by go_num,by omega,HM2.out,HW5.out⟩
    case measure=>omega
   ·have hb2:(a2 != 0) = true:=by simp [bne,h2]
    have hmd:=HMD.out
    rw [if_pos h2] at hmd
    have hr2:R = ([],(t:Int) + a1,a2):=by
     rw [← HR.out]
     unfold encI
     rw [if_neg (by omega),HM.out,hmd]
    subst hr2
    clear hmd HMD HM HLN HR h2
    go_wp2_with fail
    go_ret3
    exact ⟨rfl,HB.out.trans (HW5.out.mono HB.out.size)⟩
  ·have hin:i = ls.length:=by omega
   have hm0:maysI ls 0 = none:=by rw [HM.out,hin,List.drop_length];rfl
   have HALL:=Lib.hid (mays_all ls 0 hm0)
   have HE:=Lib.hid ((enc_end h12' hm0).symm.trans HR.out)
   clear HM HR hm0
   have hii:¬ (i:Int) < (ls.length:Int):=by omega
   go_wp2_with fail
   refine (Ground_none none 0 wr).mono ?_;rintro e w4 ⟨rfl,hfl,hb⟩
   have hsz:=HW.out.size
   have HF:=Lib.hid hfl
   have HW4:Hid (Below w1.heap.size w1 w4):=HW.out.trans (hb.mono HW.out.size)
   clear hb hfl HW
   have hkl:w1.heap.size ≤ wr.heap.size + 1:=by omega
   have hfl:w1.heap.size ≤ wr.heap.size + 2:=by omega
   generalize wr.heap.size + 2 = f at *
   generalize wr.heap.size + 1 = kn at *
   generalize wr.heap.size = mn at *
   have HI4:=Lib.hid (blk_below HI.out HW4.out)
   have c0:=blk_cell HI4.out 0
   have l0:=blk_lt HI4.out
   simp only [List.getElem?_toArray,List.getElem?_cons_zero] at c0
   go_wp2_with fail
   refine (le1_any ls.length w4 (by omega)).mono ?_;rintro e w5 ⟨rfl,hb⟩
   have HI5:=Lib.hid (blk_below HI4.out hb)
   have HW5:Hid (Below w1.heap.size w1 w5):=HW4.out.trans (hb.mono HW4.out.size)
   have HF5:=Lib.hid (HF.out.below hb)
   clear hb HW4 HF HI4 c0 l0
   have c0:=blk_cell HI5.out 0
   have l0:=blk_lt HI5.out
   simp only [List.getElem?_toArray,List.getElem?_cons_zero] at c0
   have hcat:(⟨#[79,82,73]⟩:ByteArray) ++ ⟨([UInt8.ofNat ls.length]:Nm).toArray⟩ = ⟨(accI ls 0).toArray⟩:=by
    rw [show (⟨#[79,82,73]⟩:ByteArray) = ⟨mkI.toArray⟩ from rfl,app_str]
    unfold accI
    simp
   have zc:(⟨([UInt8.ofNat ls.length]:Nm).toArray⟩:ByteArray).size = 1:=by rw [str_size];rfl
   go_wp2_with fail
   clear c0 l0 HI5 zc hcat
   go_loopg [5,11,53] ls.length (fun kk v5 v11 v53 wr=>∃ (i t:Nat) (G:Fld),i + kk = ls.length ∧ v5 = .int .i64 t ∧ v11 = sv (accI ls i) ∧ v53 = .int .i64 i ∧ t ≤ 256 * i ∧ Hid (appsI F0 ls 0 = appsI G (ls.drop i) t) ∧ Hid (FldP wr f mn kn G) ∧ Hid (Below w1.heap.size w1 wr))
   case atStart=>exact ⟨0,0,F0,by omega,rfl,rfl,rfl,by omega,rfl,HF5,HW5⟩
   case round =>
    clear HF5 HW5
    obtain ⟨i,t,G,hik,rfl,rfl,rfl,hti,HX,HFD,HW⟩:=hrel
    obtain ⟨wo,rfl⟩:∃ wo:World,wo = wr:=⟨_,rfl⟩
    by_cases hlt:i < ls.length
    ·obtain ⟨ga,rfl⟩:∃ g,gk = g + 1:=⟨gk - 1,by omega⟩
     obtain ⟨es,hes⟩:∃ es,ls[i]? = some es:=⟨_,List.getElem?_eq_getElem hlt⟩
     have hne:ls ≠ []:=fun e=>by rw [e] at hlt;simp at hlt
     obtain ⟨-,h0 | ⟨b,o,rfl,hL⟩⟩:=HL.out
     ·exact absurd h0 hne
     obtain ⟨Ai,ci,hc1,hE,hci⟩:=hL i es hes
     have hc2:=cell_below HW.out hc1
     have HAD:=Lib.hid (HX.out.trans (apps_drop G ls i t es hes))
     have HACC:=Lib.hid (acc_snoc ls i es hes)
     have hform:=HALL.out es (List.mem_of_getElem? hes)
     have hn256:=(form_ok hform).1
     have hle:=HW.out.size
     have HEI:=Lib.hid hE
     have HNEW:=Lib.hid (blk_new wo (.cells #[.slice Ai es.length ci] 44 (0,0)))
     have HT4:Hid (Turned [mn,kn] wo (wo.alloc (.cells #[.slice Ai es.length ci] 44 (0,0)))):=(Turned.refl _ _).alloc _
     have HFD4:=Lib.hid (HFD.out.turned ((Turned.refl [] wo).alloc (.cells #[.slice Ai es.length ci] 44 (0,0))) (by simp) (by simp) (by simp))
     have hml:=HFD.out.nodes.lt
     have hkl2:=HFD.out.kids.lt
     have hii:(i:Int) < (ls.length:Int):=by omega
     have hic:(i:Int) ≤ (c:Int):=by omega
     clear hc1 hL hE hes HX
     go_upto_region 18 with fail
     change Code.wp _ _ _ _ (wo.alloc (.cells #[.slice Ai es.length ci] 44 (0,0)))
     generalize (wo.alloc (.cells #[.slice Ai es.length ci] 44 (0,0))) = w6 at *
     clear hc2
     have q0:=blk_cell HNEW.out 0
     have ql:=blk_lt HNEW.out
     simp only [List.getElem?_toArray,List.getElem?_cons_zero] at q0
     go_wp2_with fail
     clear q0 ql
     go_loopg [5,60] es.length (fun kk v5 v60 wr=>∃ (j:Nat) (G:Fld),j + kk = es.length ∧ v5 = .int .i64 (t + j:Nat) ∧ v60 = .int .i64 j ∧ Hid (appsI F0 ls 0 = restI G (es.drop j) (ls.drop (i + 1)) (t + j)) ∧ Hid (FldP wr f mn kn G) ∧ Hid (Turned [mn,kn] wo wr) ∧ Hid (wr.heap[wo.heap.size]? = some (.cells #[.slice Ai es.length ci] 44 (0,0))))
     case atStart=>exact ⟨0,G,by omega,rfl,rfl,HAD.out,HFD4,HT4,HNEW⟩
     case round =>
      clear HAD HFD4 HT4 HNEW HFD
      clear G
      obtain ⟨j,G,hjk,rfl,rfl,HX,HFD,HT,HNEW⟩:=hrel
      have HWR:Hid (Below w1.heap.size w1 wr):=HW.out.trans (HT.out.below hle (by simp;omega))
      by_cases hjl:j < es.length
      ·obtain ⟨gk,rfl⟩:∃ g,gk = g + 1:=⟨gk - 1,by omega⟩
       obtain ⟨x,hx⟩:∃ x,es[j]? = some x:=⟨_,List.getElem?_eq_getElem hjl⟩
       have hne2:es ≠ []:=fun e=>by rw [e] at hjl;simp at hjl
       obtain ⟨hecl,h0 | ⟨b2,o2,rfl,hEA⟩⟩:=(HEI.out.below HWR.out)
       ·exact absurd h0 hne2
       obtain ⟨x0,x1,x2,x3⟩:=hEA j x hx
       have HRD:=Lib.hid (HX.out.trans (rest_drop G es (ls.drop (i + 1)) j (t + j) x hx))
       have HXN:=Lib.hid (blk_new wr (entO x))
       have HBA:Turned [] wr (wr.alloc (entO x)):=(Turned.refl _ _).alloc _
       have HFD2:=Lib.hid (HFD.out.turned HBA (by simp) (by simp) (by simp))
       have HT2:=Lib.hid (HT.out.alloc (entO x))
       have HN2:=Lib.hid (blk_old HNEW.out (entO x))
       have hji:(j:Int) < (es.length:Int):=by omega
       have hjc:(j:Int) ≤ (ci:Int):=by omega
       have hxl:x.path.length ≤ 1000000000:=by
        have:=((form_ok hform).2 x (List.mem_of_getElem? hx)).2.2.2.1
        omega
       clear hEA hx HBA
       go_upto_region 21 with fail
       change Code.wp _ _ _ _ (wr.alloc (entO x))
       generalize (wr.alloc (entO x)) = w7 at *
       generalize wr.heap.size = b8 at *
       clear x0 x1 x2 x3
       have p0:=blk_cell (HXN.out) 0
       have p1:=blk_cell (HXN.out) 1
       have p2:=blk_cell (HXN.out) 2
       have p3:=blk_cell (HXN.out) 3
       have pl:=blk_lt (HXN.out)
       simp only [List.getElem?_toArray,List.getElem?_cons_zero,List.getElem?_cons_succ] at p0 p1 p2 p3
       have HAP:=Lib.hid (Apply_any w7 f mn kn G x HFD2.out hxl)
       cases hap:applyF G x with
       | none =>
        rw [hap] at HAP HRD
        go_wp2_with fail
        refine HAP.out.mono ?_;rintro e w8 ⟨rfl,hf8,ht8⟩
        have HT8:=Lib.hid (HT2.out.trans ht8)
        have hr2:R = ([],((t + j:Nat):Int),1305):=by rw [← HE.out,HRD.out];rfl
        subst hr2
        clear hf8 ht8 HAP HRD HX
        go_wp2_with fail
        go_ret3
        exact ⟨rfl,HB.out.trans ((HW.out.trans (HT8.out.below hle (by simp;omega))).mono HB.out.size)⟩
       | some G2 =>
        rw [hap] at HAP HRD
        clear hap
        go_wp2_with fail
        refine HAP.out.mono ?_;rintro e w8 ⟨rfl,hf8,ht8⟩
        have HT8:=Lib.hid (HT2.out.trans ht8)
        have HF8:=Lib.hid hf8
        have HN8:=Lib.hid (ht8.kept HN2.out (by simp;omega))
        clear hf8 ht8 HAP HX
        go_wp2_with fail
        go_roundg gk
        case rel=>exact ⟨j + 1,G2,by omega,by go_num,by go_num,HRD.out,HF8,HT8,HN8⟩
        case measure=>omega
      ·have hje:j = es.length:=by omega
       subst hje
       have HRE:=Lib.hid (HX.out.trans (rest_end G es (ls.drop (i + 1)) (t + es.length)))
       have hjn:¬ (es.length:Int) < (es.length:Int):=by omega
       have HMN:=Lib.hid (Many_any wr f mn kn G HFD.out)
       by_cases h128:128 < G.nodes.length
       ·have hre:=HRE.out
        rw [if_pos h128] at hre
        have d8:decide ((128:Int) < (G.nodes.length:Int)) = true:=decide_eq_true (by omega)
        have hr2:R = ([],((t + es.length:Nat):Int) - 1,1309):=by rw [← HE.out,hre];rfl
        subst hr2
        have hw:IntKind.i64.wrap (((t + es.length:Nat):Int) - 1) = ((t + es.length:Nat):Int) - 1:=IntWalk.i64_in _ (by omega)
        clear hre HRE HX h128
        go_wp2_with fail
        refine HMN.out.mono ?_;rintro e w' ⟨rfl,rfl⟩
        go_wp2_with fail
        go_ret3
        exact ⟨rfl,HB.out.trans ((HW.out.trans (HT.out.below hle (by simp;omega))).mono HB.out.size)⟩
       ·have hre:=HRE.out
        rw [if_neg h128] at hre
        have HX2:=Lib.hid hre
        have d8:decide ((128:Int) < (G.nodes.length:Int)) = false:=decide_eq_false (by omega)
        have HLD:=Lib.hid (Laid_in es Ai ci wr (HEI.out.below HWR.out) hci hform)
        have q0:=blk_cell HNEW.out 0
        have ql:=blk_lt HNEW.out
        simp only [List.getElem?_toArray,List.getElem?_cons_zero] at q0
        have z1:(⟨(accI ls i).toArray⟩:ByteArray).size ≤ 4000000:=by rw [str_size];exact acc_len ls i HALL.out h12'
        have z2:(⟨(streamL es).toArray⟩:ByteArray).size ≤ 300000:=by rw [str_size];exact stream_len hform
        have hcat:(⟨(accI ls i).toArray⟩:ByteArray) ++ ⟨(streamL es).toArray⟩ = ⟨(accI ls (i + 1)).toArray⟩:=by rw [app_str,HACC.out]
        clear hre HRE HX h128
        go_wp2_with fail
        refine HMN.out.mono ?_;rintro e w' ⟨rfl,rfl⟩
        go_wp2_with fail
        refine HLD.out.mono ?_;rintro e w8 ⟨rfl,hb⟩
        have HT8:=Lib.hid (HT.out.trans (Turned.of_below hb))
        have HF8:=Lib.hid (HFD.out.below hb)
        clear hb HLD HMN q0 ql
        go_wp2_with fail
        go_roundg ga
        case rel=>exact ⟨i + 1,t + es.length,G,by omega,by go_num,rfl,by go_num,by omega,HX2.out,HF8,HW.out.trans (HT8.out.below hle (by simp;omega))⟩
        case measure=>omega
    ·have hin:i = ls.length:=by omega
     subst hin
     have hx:=HX.out
     rw [List.drop_length] at hx
     have hr2:R = if 65536 < (outI ls).length then ([],0,1311) else (outI ls,0,0):=by rw [← HE.out,hx];rfl
     have z1:((⟨(accI ls ls.length).toArray⟩:ByteArray).size:Int) = ((outI ls).length:Int):=by rw [str_size,acc_all]
     have hac:accI ls ls.length = outI ls:=acc_all ls
     have hii:¬ (ls.length:Int) < (ls.length:Int):=by omega
     rw [hac] at z1 ⊢
     by_cases h65:65536 < (outI ls).length
     ·rw [if_pos h65] at hr2
      have d9:decide ((65536:Int) < ((outI ls).length:Int)) = true:=decide_eq_true (by omega)
      subst hr2
      clear hx HX h65
      go_wp2_with fail
      go_ret3
      exact ⟨rfl,HB.out.trans (HW.out.mono HB.out.size)⟩
     ·rw [if_neg h65] at hr2
      have d9:decide ((65536:Int) < ((outI ls).length:Int)) = false:=decide_eq_false (by omega)
      subst hr2
      clear hx HX h65
      go_wp2_with fail
      go_ret3
      exact ⟨rfl,HB.out.trans (HW.out.mono HB.out.size)⟩
end Go.Proofs.YtifhnpkapgaboaaGreat.arch
