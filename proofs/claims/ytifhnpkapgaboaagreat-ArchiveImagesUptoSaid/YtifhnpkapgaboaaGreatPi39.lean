/-
  Proved: what the document's EncodeImage does (first part). Conditions: as each theorem says.
  Proved: a row of lent layers. Conditions: as each theorem says.
  Proved: an image lent (LendImage) has its layers with marked room. Conditions: as each theorem says.
-/
import Derived.Test.YtifhnpkapgaboaaGreatPi28
import Derived.Test.YtifhnpkapgaboaaGreatPi29
import Derived.Test.YtifhnpkapgaboaaGreatPi38
import Derived.Test.YtifhnpkapgaboaaGreatPi34
set_option linter.unusedVariables false
set_option linter.unusedSimpArgs false
namespace Go.Proofs.YtifhnpkapgaboaaGreat.doc
open Go Go.RowKit
open heap
open fld
open arch
open path (sv str_size SRow joinL)
set_option maxRecDepth 100000
theorem Form_in (es:List Ent) (A:Option Addr) (c:Nat) (w:World) (h:EIn w A c es) (hcm:c ≤ 9223372036854775807) (hp:∀ x ∈ es,small x) :
  Calls Tryz.prog 33 #[.agg #[.slice A es.length c]] w fun r w'=>r = .returned (.tuple #[.int .i64 (formL es).1,.int .i64 (formL es).2]) ∧ Below w.heap.size w w':=by
 obtain ⟨hc,rfl | ⟨b,o,rfl,hE⟩⟩:=h
 ·exact Form_none A c w
 ·exact Form_any es b o c w hE hc hcm hp
theorem stream_in (es:List Ent) (A:Option Addr) (c:Nat) (w:World) (h:EIn w A c es) (hcm:c ≤ 9223372036854775807) (hf:(formL es).2 = 0) :
  Calls Tryz.prog 37 #[.agg #[.slice A es.length c]] w fun r w'=>r = .returned (sv (streamL es)) ∧ Below w.heap.size w w':=by
 obtain ⟨hc,rfl | ⟨b,o,rfl,hE⟩⟩:=h
 ·exact stream_none A c w
 ·exact stream_any es b o c w hE hc hcm hf
theorem form_clean {es:List Ent} (h:(formL es).2 = 0) {x:Ent} (hx:x ∈ es):path.cleanB x.path = true:=by
 unfold formL at h
 split at h
 ·exact absurd h (by decide)
 ·obtain ⟨j,hj⟩:=List.getElem?_of_mem hx
  have hl:=(List.getElem?_eq_some_iff.1 hj).1
  have he:=formG_ok es es.length 0 h j x (by omega) (by omega) hj
  unfold entF at he
  split at he
  ·exact absurd he (by decide)
  ·split at he
   ·rename_i hpe;exact absurd he hpe
   ·rename_i hpe
    have hpe:=Classical.not_not.1 hpe
    rw [pathE_eq] at hpe
    split at hpe
    ·exact absurd hpe (by decide)
    ·rename_i hc
     cases hh:path.cleanB x.path with
     | false=>exact absurd (.inr hh) hc
     | true=>rfl
theorem cv1 (W:World) (g:Nat) (k:Nat) (hk:k < 256) (h:W.heap[g]? = some (.cells #[.int .u8 k] 5 (0,0))) :
  (convert 72 9 (.slice (some ⟨g,0,none⟩) 1 1)).run Tryz.prog W = .ok (.string ⟨([UInt8.ofNat k]:List UInt8).toArray⟩) W:=by
 have hr:row.RowIs W g [UInt8.ofNat k]:=by
  refine ⟨_,0,0,h,by simp,by simp,fun i hi => ?_⟩
  have e1:k % 256 = k:=by omega
  match i,hi with
  | 0,_=>simp [row.byteV,e1]
 exact hr.conv 1
set_option maxHeartbeats 8000000 in
theorem rEncodeImage_any (ls:List (List Ent)) (A:Option Addr) (c:Nat) (w:World) (h:LIn w A c ls) (hcm:c ≤ 9223372036854775807) (hp:∀ es ∈ ls,∀ x ∈ es,small x) :
  Calls Tryz.prog 9 #[.agg #[.slice A ls.length c]] w fun e w'=>e = .returned (.tuple #[sv (encI ls).1,.int .i64 (encI ls).2.1,.int .i64 (encI ls).2.2]) ∧ Below w.heap.size w w':=by
 have HI:=Lib.hid (blk_new w (.cells #[.slice A ls.length c] 24 (0,0)))
 have HB:Hid (Below w.heap.size w (w.alloc (.cells #[.slice A ls.length c] 24 (0,0)))):=(Below.refl _ _).alloc (Nat.le_refl _) _
 have HL:=Lib.hid (h.below HB.out)
 have hlc:=h.1
 have HP:=Lib.hid hp
 clear h hp
 obtain ⟨R,hR⟩:∃ R,encI ls = R:=⟨_,rfl⟩
 rw [hR]
 by_cases h12:12 < ls.length
 ·have d1:decide ((12:Int) < (ls.length:Int)) = true:=decide_eq_true (by omega)
  have hR2:R = ([],0,1309):=by rw [← hR];unfold encI;rw [if_pos h12]
  subst hR2
  clear hR
  go_enter Tryz.func9,Tryz.ntmps9
  go_wp2_with fail
  go_ret3
  exact ⟨rfl,HB.out⟩
 have d1:decide ((12:Int) < (ls.length:Int)) = false:=decide_eq_false (by omega)
 have h12':ls.length ≤ 12:=by omega
 clear h12
 have HR:=Lib.hid hR
 clear hR
 go_enter Tryz.func9,Tryz.ntmps9
 go_upto_region 4 with fail
 change Code.wp _ _ _ _ (w.alloc (.cells #[.slice A ls.length c] 24 (0,0)))
 generalize w.alloc (.cells #[.slice A ls.length c] 24 (0,0)) = w1 at *
 have q0:=blk_cell HI.out 0
 have ql:=blk_lt HI.out
 simp only [List.getElem?_toArray,List.getElem?_cons_zero] at q0
 have hb0:Below w1.heap.size w1 (w1.alloc (.cells #[.int .u8 ls.length] 5 (0,0))):=(Below.refl _ _).alloc (Nat.le_refl _) _
 have hcv:=cv1 (w1.alloc (.cells #[.int .u8 ls.length] 5 (0,0))) w1.heap.size ls.length (by omega) (blk_new _ _)
 have HI1:=Lib.hid (blk_below HI.out hb0)
 have HW1:=Lib.hid hb0
 have hcat:(⟨#[79,82,73]⟩:ByteArray) ++ ⟨([UInt8.ofNat ls.length]:Nm).toArray⟩ = ⟨(accI ls 0).toArray⟩:=by
  rw [show (⟨#[79,82,73]⟩:ByteArray) = ⟨mkI.toArray⟩ from rfl,app_str]
  unfold accI
  simp
 have zc:(⟨([UInt8.ofNat ls.length]:Nm).toArray⟩:ByteArray).size = 1:=by rw [str_size];rfl
 clear d1 hb0
 go_wp2_with fail
 clear hcv q0 ql hcat zc
 generalize hwb:w1.alloc _ = wb at *
 clear hwb
 go_loopg [5,7] ls.length (fun kk v5 v7 wr=>∃ i t:Nat,i + kk = ls.length ∧ v5 = .int .i64 t ∧ v7 = .int .i64 i ∧ t ≤ 256 * i ∧ Hid (maysI ls 0 = maysI (ls.drop i) t) ∧ Hid (Below w1.heap.size w1 wr))
 case atStart=>exact ⟨0,0,by omega,rfl,rfl,by omega,rfl,HW1.out⟩
 case round =>
  obtain ⟨i,t,hik,rfl,rfl,hti,HM,HW⟩:=hrel
  have HIr:=Lib.hid (blk_below HI.out HW.out)
  have q0:=blk_cell HIr.out 0
  have ql:=blk_lt HIr.out
  simp only [List.getElem?_toArray,List.getElem?_cons_zero] at q0
  by_cases hlt:i < ls.length
  ·obtain ⟨gk,rfl⟩:∃ g,gk = g + 1:=⟨gk - 1,by omega⟩
   obtain ⟨es,hes⟩:∃ es,ls[i]? = some es:=⟨_,List.getElem?_eq_getElem hlt⟩
   have hne:ls ≠ []:=fun e=>by rw [e] at hlt;simp at hlt
   obtain ⟨-,h0 | ⟨b,o,rfl,hL⟩⟩:=HL.out
   ·exact absurd h0 hne
   obtain ⟨Ai,ci,hc1,hE,hci⟩:=hL i es hes
   have hc2:=cell_below HW.out hc1
   have HC1:=Lib.hid hc1
   have HMD:=Lib.hid (mays_drop ls i t es hes)
   have HMY:=Lib.hid (Form_in es Ai ci _ (hE.below HW.out) hci (HP.out es (List.mem_of_getElem? hes)))
   obtain ⟨f1,f2⟩:=formL_fst es
   have HLN:Hid ((formL es).2 = 0 → es.length ≤ 256):=fun h=>(form_ok h).1
   generalize (formL es).1 = a1 at *
   generalize (formL es).2 = a2 at *
   have hii:(i:Int) < (ls.length:Int):=by omega
   have hic:(i:Int) ≤ (c:Int):=by omega
   clear hc1 hL hE hes
   go_wp2_with fail
   refine HMY.out.mono ?_;rintro r w5 ⟨rfl,hb⟩
   have HI5:=Lib.hid (blk_below HIr.out hb)
   have HW5:Hid (Below w1.heap.size w1 w5):=HW.out.trans (hb.mono HW.out.size)
   clear hb HMY HIr HW q0 ql hc2
   have q0:=blk_cell HI5.out 0
   have ql:=blk_lt HI5.out
   simp only [List.getElem?_toArray,List.getElem?_cons_zero] at q0
   have hc2:=cell_below HW5.out HC1.out
   by_cases h2:a2 = 0
   ·have hn:=HLN.out h2
    have hmd:=HMD.out
    rw [if_neg (by simp [h2])] at hmd
    have HM2:=Lib.hid (HM.out.trans hmd)
    subst h2
    clear hmd HMD HM HLN
    go_wp2_with fail
    go_roundg gk
    case rel=>exact ⟨i + 1,t + es.length,by omega,by go_num,by go_num,by omega,HM2.out,HW5.out⟩
    case measure=>omega
   ·have hb2:(a2 != 0) = true:=by simp [bne,h2]
    have hmd:=HMD.out
    rw [if_pos h2] at hmd
    have hr2:R = ([],(t:Int) + a1,a2):=by
     rw [← HR.out]
     unfold encI
     rw [if_neg (by omega),HM.out,hmd]
    subst hr2
    clear hmd HMD HM HLN HR h2
    go_wp2_with fail
    go_ret3
    exact ⟨rfl,HB.out.trans (HW5.out.mono HB.out.size)⟩
  ·have hin:i = ls.length:=by omega
   have hm0:maysI ls 0 = none:=by rw [HM.out,hin,List.drop_length];rfl
   have HALL:=Lib.hid (mays_all ls 0 hm0)
   have HE:=Lib.hid ((enc_end h12' hm0).symm.trans HR.out)
   clear HM HR hm0
   have hii:¬ (i:Int) < (ls.length:Int):=by omega
   go_wp2_with fail
   refine (New_any wr).mono ?_;rintro e w4 ⟨tr,rb,rfl,htp,hb⟩
   have hsz:=HW.out.size
   have HT:=Lib.hid htp
   have HW4:Hid (Below w1.heap.size w1 w4):=HW.out.trans (hb.mono HW.out.size)
   clear hb htp HW HIr q0 ql
   generalize wr.heap.size = B at *
   go_wp2_with fail
   go_loopg [5,6,11] ls.length (fun kk v5 v6 v11 wr=>∃ (i t:Nat) (G:Fld) (M:DM),i + kk = ls.length ∧ v5 = .int .i64 t ∧ v6 = sv (accI ls i) ∧ v11 = .int .i64 i ∧ t ≤ 256 * i ∧ Hid (appsI F0 ls 0 = appsI G (ls.drop i) t) ∧ Hid (Rel G M) ∧ Hid (TreeP wr B tr M) ∧ Hid (M.length ≤ 1 + t) ∧ Hid (Below w1.heap.size w1 wr))
   case atStart=>exact ⟨0,0,F0,[rootN rb],by omega,rfl,rfl,rfl,by omega,rfl,Rel.new rb,HT,by simp [Hid],HW4⟩
   case round =>
    clear HT HW4
    obtain ⟨i,t,G,M,hik,rfl,rfl,rfl,hti,HX,HRL,HT,HML,HW⟩:=hrel
    have HI2:=Lib.hid (blk_below HI.out HW.out)
    have q0:=blk_cell HI2.out 0
    have ql:=blk_lt HI2.out
    simp only [List.getElem?_toArray,List.getElem?_cons_zero] at q0
    by_cases hlt:i < ls.length
    ·obtain ⟨ga,rfl⟩:∃ g,gk = g + 1:=⟨gk - 1,by omega⟩
     obtain ⟨es,hes⟩:∃ es,ls[i]? = some es:=⟨_,List.getElem?_eq_getElem hlt⟩
     have hne:ls ≠ []:=fun e=>by rw [e] at hlt;simp at hlt
     obtain ⟨-,h0 | ⟨b,o,rfl,hL⟩⟩:=HL.out
     ·exact absurd h0 hne
     obtain ⟨Ai,ci,hc1,hE,hci⟩:=hL i es hes
     have hc2:=cell_below HW.out hc1
     have HC1:=Lib.hid hc1
     have HAD:=Lib.hid (HX.out.trans (apps_drop G ls i t es hes))
     have HACC:=Lib.hid (acc_snoc ls i es hes)
     have hform:=HALL.out es (List.mem_of_getElem? hes)
     have HFORM:=Lib.hid hform
     have hn256:=(form_ok hform).1
     have HEI:=Lib.hid hE
     have hii:(i:Int) < (ls.length:Int):=by omega
     have hic:(i:Int) ≤ (c:Int):=by omega
     clear hc1 hL hE hes HX hform
     go_wp2_with fail
     clear q0 ql hc2
     go_loopg [13] es.length (fun kk v13 wr=>∃ (j:Nat) (G:Fld) (M:DM),j + kk = es.length ∧ v13 = .int .i64 j ∧ Hid (appsI F0 ls 0 = restI G (es.drop j) (ls.drop (i + 1)) (t + j)) ∧ Hid (Rel G M) ∧ Hid (TreeP wr B tr M) ∧ Hid (M.length ≤ 1 + (t + j)) ∧ Hid (Below w1.heap.size w1 wr))
     case atStart=>exact ⟨0,G,M,by omega,rfl,HAD.out,HRL,HT,HML.out,HW⟩
     case round =>
      clear HAD HRL HT HML HW HI2
      clear G M
      obtain ⟨j,G,M,hjk,rfl,HX,HRL,HT,HML,HW⟩:=hrel
      by_cases hjl:j < es.length
      ·obtain ⟨gk,rfl⟩:∃ g,gk = g + 1:=⟨gk - 1,by omega⟩
       obtain ⟨x,hx⟩:∃ x,es[j]? = some x:=⟨_,List.getElem?_eq_getElem hjl⟩
       have hne2:es ≠ []:=fun e=>by rw [e] at hjl;simp at hjl
       obtain ⟨hecl,h0 | ⟨b2,o2,rfl,hEA⟩⟩:=(HEI.out.below HW.out)
       ·exact absurd h0 hne2
       obtain ⟨x0,x1,x2,x3⟩:=hEA j x hx
       have HRD:=Lib.hid (HX.out.trans (rest_drop G es (ls.drop (i + 1)) j (t + j) x hx))
       have hxm:=List.mem_of_getElem? hx
       have hok:=(form_ok HFORM.out).2 x hxm
       obtain ⟨qs,n,hg,hpe⟩:=clean_split x.path (form_clean HFORM.out hxm) hok.2.2.1
       have hml:=HML.out
       have HPU:=Lib.hid (Put_any HRL.out HT.out (by omega) x qs n hg hpe (by omega))
       have hji:(j:Int) < (es.length:Int):=by omega
       have hjc:(j:Int) ≤ (ci:Int):=by omega
       clear hEA hx hxm hok hg hpe hml
       go_wp2_with fail
       refine HPU.out.mono ?_
       rintro r w8 (⟨hap,rfl,hb⟩ | ⟨G2,M2,hap,hr2,rfl,ht2,htur,-,hm2⟩)
       ·have HW8:Hid (Below w1.heap.size w1 w8):=HW.out.trans (hb.mono HW.out.size)
        have hrd:=HRD.out
        rw [hap] at hrd
        have hr2:R = ([],((t + j:Nat):Int),1305):=by rw [← HE.out,hrd];rfl
        subst hr2
        clear hrd hap hb HPU HRD HX HE x0 x1 x2 x3
        go_wp2_with fail
        go_ret3
        exact ⟨rfl,HB.out.trans (HW8.out.mono HB.out.size)⟩
       ·have hrd:=HRD.out
        rw [hap] at hrd
        have HX2:=Lib.hid hrd
        have HR2:=Lib.hid hr2
        have HT2:=Lib.hid ht2
        have HM2:Hid (M2.length ≤ 1 + (t + (j + 1))):=by have:=HML.out;rw [Hid];omega
        have HW8:Hid (Below w1.heap.size w1 w8):=HW.out.trans (htur.below HW.out.size fun k hk=>Nat.le_trans hsz (HT.out.lt hk).1)
        clear hrd hap hr2 ht2 htur hm2 HPU HRD x0 x1 x2 x3
        go_wp2_with fail
        go_roundg gk
        case rel=>exact ⟨j + 1,G2,M2,by omega,by go_num,HX2,HR2,HT2,HM2.out,HW8⟩
        case measure=>omega
      ·have hje:j = es.length:=by omega
       subst hje
       have HRE:=Lib.hid (HX.out.trans (rest_end G es (ls.drop (i + 1)) (t + es.length)))
       have hjn:¬ (es.length:Int) < (es.length:Int):=by omega
       obtain ⟨r,rest,cc,fd,l,ii,mm,nx,bs,hMr,htb⟩:=HT.out.tb
       have t0:wr.cell? ⟨tr,0,none⟩ = some (pV r.b):=by rw [blk_cell htb];rfl
       have hrM:r ∈ M:=by rw [hMr];simp
       have hrp:r.ps = []:=by
        obtain ⟨r',rest',h1,h2,-⟩:=HT.out.wf.root
        rw [hMr,List.cons.injEq] at h1
        rw [h1.1];exact h2
       have hcnt:cnt M r.ps = G.nodes.length:=by
        have h1:=HT.out.wf.count_root
        have h2:=HRL.out.len
        rw [hrp];omega
       have HCT:=Lib.hid (Count_any HT.out (by have:=HML.out;omega) r hrM)
       rw [hcnt] at HCT
       have HI3:=Lib.hid (blk_below HI.out HW.out)
       have q0:=blk_cell HI3.out 0
       have ql:=blk_lt HI3.out
       simp only [List.getElem?_toArray,List.getElem?_cons_zero] at q0
       have hc2:=cell_below HW.out HC1.out
       clear hMr htb hrM hrp hcnt
       generalize r.b = rb2 at *
       by_cases h128:128 < G.nodes.length
       ·have hre:=HRE.out
        rw [if_pos h128] at hre
        have d8:decide ((128:Int) < (G.nodes.length:Int)) = true:=decide_eq_true (by omega)
        have hr2:R = ([],((t + es.length:Nat):Int) - 1,1309):=by rw [← HE.out,hre];rfl
        subst hr2
        have hw:IntKind.i64.wrap (((t + es.length:Nat):Int) - 1) = ((t + es.length:Nat):Int) - 1:=IntWalk.i64_in _ (by omega)
        clear hre HRE HX h128 HE
        go_wp2_with fail
        refine HCT.out.mono ?_;rintro e w' ⟨rfl,rfl⟩
        go_wp2_with fail
        go_ret3
        exact ⟨rfl,HB.out.trans (HW.out.mono HB.out.size)⟩
       ·have hre:=HRE.out
        rw [if_neg h128] at hre
        have HX2:=Lib.hid hre
        have d8:decide ((128:Int) < (G.nodes.length:Int)) = false:=decide_eq_false (by omega)
        have HLD:=Lib.hid (stream_in es Ai ci wr (HEI.out.below HW.out) hci HFORM.out)
        have z1:(⟨(accI ls i).toArray⟩:ByteArray).size ≤ 4000000:=by rw [str_size];exact acc_len ls i HALL.out h12'
        have z2:(⟨(streamL es).toArray⟩:ByteArray).size ≤ 300000:=by rw [str_size];exact stream_len HFORM.out
        have hcat:(⟨(accI ls i).toArray⟩:ByteArray) ++ ⟨(streamL es).toArray⟩ = ⟨(accI ls (i + 1)).toArray⟩:=by rw [app_str,HACC.out]
        clear hre HRE HX h128
        go_wp2_with fail
        refine HCT.out.mono ?_;rintro e w' ⟨rfl,rfl⟩
        go_wp2_with fail
        refine HLD.out.mono ?_;rintro e w8 ⟨rfl,hb⟩
        have HT8:=Lib.hid (HT.out.below hb)
        have HW8:Hid (Below w1.heap.size w1 w8):=HW.out.trans (hb.mono HW.out.size)
        clear hb HLD HCT q0 ql t0 hc2
        go_wp2_with fail
        go_roundg ga
        case rel=>exact ⟨i + 1,t + es.length,G,M,by omega,by go_num,rfl,by go_num,by omega,HX2.out,HRL,HT8,HML.out,HW8⟩
        case measure=>omega
    ·have hin:i = ls.length:=by omega
     subst hin
     have hx:=HX.out
     rw [List.drop_length] at hx
     have hr2:R = if 65536 < (outI ls).length then ([],0,1311) else (outI ls,0,0):=by rw [← HE.out,hx];rfl
     have z1:((⟨(accI ls ls.length).toArray⟩:ByteArray).size:Int) = ((outI ls).length:Int):=by rw [str_size,acc_all]
     have hac:accI ls ls.length = outI ls:=acc_all ls
     have hii:¬ (ls.length:Int) < (ls.length:Int):=by omega
     rw [hac] at z1 ⊢
     by_cases h65:65536 < (outI ls).length
     ·rw [if_pos h65] at hr2
      have d9:decide ((65536:Int) < ((outI ls).length:Int)) = true:=decide_eq_true (by omega)
      subst hr2
      clear hx HX h65
      go_wp2_with fail
      go_ret3
      exact ⟨rfl,HB.out.trans (HW.out.mono HB.out.size)⟩
     ·rw [if_neg h65] at hr2
      have d9:decide ((65536:Int) < ((outI ls).length:Int)) = false:=decide_eq_false (by omega)
      subst hr2
      clear hx HX h65
      go_wp2_with fail
      go_ret3
      exact ⟨rfl,HB.out.trans (HW.out.mono HB.out.size)⟩
end Go.Proofs.YtifhnpkapgaboaaGreat.doc
namespace Go.Proofs.YtifhnpkapgaboaaGreat.arch
open Go Go.RowKit
open heap
open path (sv str_size)
set_option maxRecDepth 100000
structure LdR (w:World) (base:Nat) (v:Value) (ls:List (List Ent)) (vs:List Value):Prop where
 row:w.ownsRow base 44 1 v ls.length vs
 inn:∀ (i:Nat) (es:List Ent),ls[i]? = some es → ∃ g cap,vs[i]? = some (.slice (some ⟨g,0,none⟩) es.length cap) ∧ ERow w base (.slice (some ⟨g,0,none⟩) (es.length + 2) cap) (es ++ [roomE,roomE])
theorem LdR.len {w:World} {base:Nat} {v:Value} {ls:List (List Ent)} {vs:List Value} (h:LdR w base v ls vs):vs.length = ls.length:=by have:=h.row.1;omega
theorem LdR.app {w:World} {base h gu cu:Nat} {v:Value} {ls:List (List Ent)} {vs:List Value} {es:List Ent} (hr:LdR w base v ls vs) (hh:w.heap[h]? = some (.cells #[.slice (some ⟨gu,0,none⟩) es.length cu] 44 (0,0))) (hu:ERow w base (.slice (some ⟨gu,0,none⟩) (es.length + 2) cu) (es ++ [roomE,roomE])) (hn:ls.length ≤ 5864062014800) (hb:base ≤ w.heap.size) :
  ∃ g cap W2,(Builtin.append_ #[22,22] 22 #[v,.slice (some ⟨h,0,none⟩) 1 1]).run Tryz.prog w = .ok (.slice (some ⟨g,0,none⟩) (ls.length + 1) cap) W2 ∧ LdR W2 base (.slice (some ⟨g,0,none⟩) (ls.length + 1) cap) (ls ++ [es]) (vs ++ [.slice (some ⟨gu,0,none⟩) es.length cu]) ∧ Turned v.ownBlock.toList w W2:=by
 obtain ⟨i0,hi,hz0,hz1,hz2⟩:=info_parts infoL
 obtain ⟨g,cap,w',h1,h2,h3,h4,_⟩:=run_append_lies (P:=Tryz.prog) (w:=w) 22 22 base 44 i0 _ 1 24 Tryz.underlying22 hi hz0 hz1 hz2 rfl (by decide) v ls.length _ hr.row ⟨h,0,none⟩ 1 1 [Value.slice (some ⟨gu,0,none⟩) es.length cu] rfl
  (fun j u hu=>by rw [eadd0,blk_cell hh];simpa using hu) (fun u hu=>by rw [List.mem_singleton] at hu;subst hu;rfl) (by decide) (by unfold maxLen;omega) (by omega) hb _ rfl
 have ht:Turned v.ownBlock.toList w w':=⟨h3.os,h3.tape,h3.output,h3.size,fun b hb hn=>h3.block b hb (fun e=>hn (by simp [← e]))⟩
 have hne:∀ {x:Value} {fs:List Ent},ERow w base x fs → ∀ g ∈ x.ownBlock.toList,g ∉ v.ownBlock.toList:=fun hx g hg hm=>by
  obtain ⟨-,-,c1,k1⟩:=own_blk hx g hg
  obtain ⟨-,-,c2,k2⟩:=own_blk hr.row g hm
  rw [k1] at k2
  simp at k2
 refine ⟨g,cap,w',h1,⟨by rw [List.length_append];exact h2,fun i fs hi => ?_⟩,ht⟩
 have hl:=hr.len
 by_cases hil:i < ls.length
 ·rw [List.getElem?_append_left hil] at hi
  obtain ⟨x,y,k1,k2⟩:=hr.inn i fs hi
  exact ⟨x,y,by rw [List.getElem?_append_left (by omega)];exact k1,k2.turned ht (hne k2)⟩
 ·rw [List.getElem?_append_right (by omega)] at hi
  have hi0:i = ls.length:=by
   have:=(List.getElem?_eq_some_iff.1 hi).1
   simp at this
   omega
  subst hi0
  simp at hi
  subst hi
  exact ⟨_,_,by rw [List.getElem?_append_right (by omega),hl];simp,hu.turned ht (hne hu)⟩
structure LentI (w:World) (base g cap:Nat) (ls:List (List Ent)):Prop where
 lo:base ≤ g
 cap1:ls.length + 1 ≤ cap
 cap2:cap ≤ 9223372036854775807
 inn:∀ (i:Nat) (es:List Ent),ls[i]? = some es → ∃ gi ci,w.cell? ⟨g,i,none⟩ = some (.slice (some ⟨gi,0,none⟩) es.length ci) ∧ ERow w base (.slice (some ⟨gi,0,none⟩) (es.length + 2) ci) (es ++ [roomE,roomE])
 room:∃ gr,base ≤ gr ∧ w.cell? ⟨g,ls.length,none⟩ = some (.slice (some ⟨gr,0,none⟩) 1 1) ∧ w.cell? ⟨gr,0,none⟩ = some (sv roomE.path)
theorem LentI.below {w w':World} {base g cap:Nat} {ls:List (List Ent)} (h:LentI w base g cap ls) (hb:Below w.heap.size w w'):LentI w' base g cap ls:=by
 refine ⟨h.lo,h.cap1,h.cap2,fun i es hi => ?_,?_⟩
 ·obtain ⟨gi,ci,h1,h2⟩:=h.inn i es hi
  exact ⟨gi,ci,cell_below hb h1,h2.below hb⟩
 ·obtain ⟨gr,h0,h1,h2⟩:=h.room
  exact ⟨gr,h0,cell_below hb h1,cell_below hb h2⟩
theorem LentI.low {w w':World} {base base' g cap:Nat} {ls:List (List Ent)} {S:List Nat} (h:LentI w base g cap ls) (ht:Turned S w w') (hS:∀ k ∈ S,k < base) (hbb:base' ≤ base):LentI w' base' g cap ls:=by
 have hlo:=h.lo
 refine ⟨by omega,h.cap1,h.cap2,fun i es hi => ?_,?_⟩
 ·obtain ⟨gi,ci,h1,h2⟩:=h.inn i es hi
  exact ⟨gi,ci,ht.cell h1 (fun hm=>by have:=hS _ hm;simp at this;omega),ERow.base (h2.turned ht (fun k hk hm=>by have:=hS k hm;have:=(h2.lt k hk).1;omega)) hbb⟩
 ·obtain ⟨gr,h0,h1,h2⟩:=h.room
  exact ⟨gr,by omega,ht.cell h1 (fun hm=>by have:=hS _ hm;simp at this;omega),ht.cell h2 (fun hm=>by have:=hS _ hm;simp at this;omega)⟩
theorem LentI.lin {w:World} {base g cap:Nat} {ls:List (List Ent)} (h:LentI w base g cap ls):LIn w (some ⟨g,0,none⟩) cap ls:=by
 refine ⟨by have:=h.cap1;omega,.inr ⟨g,0,rfl,fun i es hi => ?_⟩⟩
 obtain ⟨gi,ci,h1,h2⟩:=h.inn i es hi
 obtain ⟨k1,k2,k3,k4,k5,-⟩:=lent_at h2
 exact ⟨_,ci,by rw [Nat.zero_add];exact h1,⟨by omega,.inr ⟨gi,0,rfl,EAt.left k1⟩⟩,k5⟩
theorem own_app {w:World} {base h gu nu cu n:Nat} {v:Value} {vs:List Value} (hr:w.ownsRow base 44 1 v n vs) (hh:w.heap[h]? = some (.cells #[.slice (some ⟨gu,0,none⟩) nu cu] 44 (0,0))) (hn:n ≤ 5864062014800) (hb:base ≤ w.heap.size) :
  ∃ g cap W2,(Builtin.append_ #[22,22] 22 #[v,.slice (some ⟨h,0,none⟩) 1 1]).run Tryz.prog w = .ok (.slice (some ⟨g,0,none⟩) (n + 1) cap) W2 ∧ W2.ownsRow base 44 1 (.slice (some ⟨g,0,none⟩) (n + 1) cap) (n + 1) (vs ++ [.slice (some ⟨gu,0,none⟩) nu cu]) ∧ Turned v.ownBlock.toList w W2:=by
 obtain ⟨i0,hi,hz0,hz1,hz2⟩:=info_parts infoL
 obtain ⟨g,cap,w',h1,h2,h3,h4,_⟩:=run_append_lies (P:=Tryz.prog) (w:=w) 22 22 base 44 i0 _ 1 24 Tryz.underlying22 hi hz0 hz1 hz2 rfl (by decide) v n _ hr ⟨h,0,none⟩ 1 1 [Value.slice (some ⟨gu,0,none⟩) nu cu] rfl
  (fun j u hu=>by rw [eadd0,blk_cell hh];simpa using hu) (fun u hu=>by rw [List.mem_singleton] at hu;subst hu;rfl) (by decide) (by unfold maxLen;omega) (by omega) hb _ rfl
 exact ⟨g,cap,w',h1,h2,⟨h3.os,h3.tape,h3.output,h3.size,fun b hb hn=>h3.block b hb (fun e=>hn (by simp [← e]))⟩⟩
theorem own_free {w w':World} {base n:Nat} {v x:Value} {vs:List Value} {fs:List Ent} (hr:w.ownsRow base 44 1 v n vs) (hx:ERow w base x fs) (ht:Turned v.ownBlock.toList w w'):ERow w' base x fs:=by
 refine hx.turned ht (fun g hg hm => ?_)
 obtain ⟨-,-,c1,k1⟩:=own_blk hx g hg
 obtain ⟨-,-,c2,k2⟩:=own_blk hr g hm
 rw [k1] at k2
 simp at k2
structure LgI (w:World) (A:Option Addr) (c:Nat) (ls:List (List Ent)) (i g cap:Nat) (wr:World):Prop where
 box:wr.heap[w.heap.size]? = some (.cells #[.slice A ls.length c] 24 (0,0))
 res:wr.heap[w.heap.size + 1]? = some (.cells #[.slice none 0 0] 24 (0,0))
 bel:Below w.heap.size w wr
 row:∃ vs,LdR wr (w.heap.size + 2) (.slice (some ⟨g,0,none⟩) i cap) (ls.take i) vs
theorem madeL (n:Nat):(madeCells #[Value.slice none 0 0] n).size = n:=size_madeCells _ _
set_option maxHeartbeats 2000000 in
theorem LendImage_any (ls:List (List Ent)) (A:Option Addr) (c:Nat) (w:World) (h:LIn w A c ls) (hcm:c ≤ 9223372036854775807) (hn:ls.length ≤ 5864062014000) (hes:∀ es ∈ ls,es.length ≤ 2932031007000) :
  Calls Tryz.prog 7 #[.agg #[.slice A ls.length c]] w fun e w'=>∃ g cap,e = .returned (.agg #[.slice (some ⟨g,0,none⟩) ls.length cap]) ∧ LentI w' w.heap.size g cap ls ∧ Below w.heap.size w w':=by
 obtain ⟨i0,hi,hz0,hz1,hz2⟩:=info_parts infoL
 have hmk:∀ u:World,(Instr.makeSlice 22 (.int .i64 0) (.int .i64 ((ls.length:Int) + 1))).run Tryz.prog u =
   .ok (.slice (some ⟨u.heap.size,0,none⟩) 0 (ls.length + 1)) (u.alloc (.cells (madeCells #[.slice none 0 0] (ls.length + 1)) 44)):=fun u=>by
  have h:=run_make (P:=Tryz.prog) u 22 44 i0 _ Tryz.underlying22 hi hz0 .i64 .i64 0 ((ls.length:Int) + 1) (by omega) (by omega) (by rw [hz2];omega) (by omega)
  rw [show ((ls.length:Int) + 1).toNat = ls.length + 1 from by omega] at h
  simpa [hz1,Value.cells] using h
 have HMS:=madeL (ls.length + 1)
 generalize madeCells #[Value.slice none 0 0] (ls.length + 1) = C at *
 have HL:=Lib.hid h
 have HES:=Lib.hid hes
 have HC:=Lib.hid HMS
 have hlc:=h.1
 clear h hes hi hz0 hz1 hz2 HMS
 go_enter Tryz.func7,Tryz.ntmps7
 go_wp2_with fail
 have HI0:Hid (LgI w A c ls 0 (w.heap.size + 2) (ls.length + 1) (((w.alloc (.cells #[.slice A ls.length c] 24 (0,0))).alloc (.cells #[.slice none 0 0] 24 (0,0))).alloc (.cells C 44 (0,0)))):=by
  have e2:(((w.alloc (.cells #[.slice A ls.length c] 24 (0,0))).alloc (.cells #[.slice none 0 0] 24 (0,0)))).heap.size = w.heap.size + 2:=by simp
  have e1:(w.alloc (.cells #[.slice A ls.length c] 24 (0,0))).heap.size = w.heap.size + 1:=by simp
  have hc:=blk_new (((w.alloc (.cells #[.slice A ls.length c] 24 (0,0))).alloc (.cells #[.slice none 0 0] 24 (0,0)))) (.cells C 44 (0,0))
  rw [e2] at hc
  have hr:=blk_new (w.alloc (.cells #[.slice A ls.length c] 24 (0,0))) (.cells #[.slice none 0 0] 24 (0,0))
  rw [e1] at hr
  exact ⟨blk_old (blk_old (blk_new _ _) _) _,blk_old hr _,(((Below.refl _ _).alloc (Nat.le_refl _) _).alloc (by simp) _).alloc (by simp;omega) _,
   ⟨[],⟨by rw [List.take_zero];exact ⟨rfl,.inr ⟨_,_,C,rfl,Nat.le_refl _,hc,Nat.zero_le _,by unfold maxLen;omega,by rw [HC.out];simp,by simp⟩⟩,fun i es hi=>by simp at hi⟩⟩⟩
 clear hmk HC
 go_loopg [3,4] ls.length (fun kk v3 v4 wr=>∃ i g cap:Nat,i + kk = ls.length ∧ v3 = .slice (some ⟨g,0,none⟩) i cap ∧ v4 = .int .i64 i ∧ Hid (LgI w A c ls i g cap wr))
 case atStart=>exact ⟨0,_,_,by omega,rfl,rfl,HI0.out⟩
 case round =>
  clear HI0
  obtain ⟨i,g,cap,hik,rfl,rfl,HG⟩:=hrel
  have q0:=blk_cell HG.out.box 0
  have ql:=blk_lt HG.out.box
  simp only [List.getElem?_toArray,List.getElem?_cons_zero] at q0
  have htk:(ls.take i).length = i:=by rw [List.length_take];omega
  by_cases hlt:i < ls.length
  ·cases gk with
   | zero=>omega
   | succ gk =>
   have hltI:(i:Int) < (ls.length:Int):=by omega
   obtain ⟨es,he⟩:∃ e,ls[i]? = some e:=⟨_,List.getElem?_eq_getElem hlt⟩
   rcases HL.out.2 with rfl | ⟨b,o,rfl,hb⟩
   ·simp at hlt
   obtain ⟨Ai,ci,x0,hx1,hx2⟩:=hb i es he
   have x0:=cell_below HG.out.bel x0
   have HLE:=Lib.hid (LendLayer_any es Ai ci wr (hx1.below HG.out.bel) (HES.out es (List.mem_of_getElem? he)))
   have HE:=Lib.hid he
   clear hb he hx1
   go_wp2_with fail
   refine HLE.out.mono ?_;rintro e w2 ⟨g1,c1,rfl,hr1,hb2⟩
   clear HLE q0 ql x0
   obtain ⟨vs,hrow⟩:=HG.out.row
   have hszw:=HG.out.bel.size
   have hsz2:=hb2.size
   have hlw:=blk_lt HG.out.res
   have hbo:Below w2.heap.size w2 (w2.alloc (.cells #[.slice (some ⟨g1,0,none⟩) es.length c1] 44 (0,0))):=(Below.refl _ _).alloc (Nat.le_refl _) _
   have hvb:=own_blk hrow.row
   have hrow2:LdR (w2.alloc (.cells #[.slice (some ⟨g1,0,none⟩) es.length c1] 44 (0,0))) (w.heap.size + 2) (.slice (some ⟨g,0,none⟩) i cap) (ls.take i) vs:=⟨own_kept hrow.row (fun x hx=>by rw [(hb2.trans (hbo.mono hb2.size)).block x (hvb x hx).2.1]),fun j fs hj=>by
    obtain ⟨x,y,k1,k2⟩:=hrow.inn j fs hj
    exact ⟨x,y,k1,(k2.below hb2).below hbo⟩⟩
   obtain ⟨g2,cap2,W4,hrun,hrow4,ht⟩:=hrow2.app (blk_new w2 _) (ERow.base (hr1.below hbo) (by omega)) (by omega) (by simp;omega)
   rw [htk] at hrun hrow4
   have hown:∀ k ∈ (Value.slice (some ⟨g,0,none⟩) i cap).ownBlock.toList,w.heap.size + 2 ≤ k:=fun k hk=>(hvb k hk).1
   have hb4:Below w.heap.size w W4:=((HG.out.bel.trans (hb2.mono hszw)).alloc (by omega) _).trans (ht.below (by simp;omega) (fun k hk=>by have:=hown k hk;omega))
   have HLI:Hid (LgI w (some ⟨b,o,none⟩) c ls (i + 1) g2 cap2 W4):=by
    refine ⟨ht.kept (blk_old (blk_below HG.out.box hb2) _) (fun hm=>by have:=hown _ hm;omega),ht.kept (blk_old (blk_below HG.out.res hb2) _) (fun hm=>by have:=hown _ hm;omega),hb4,vs ++ [.slice (some ⟨g1,0,none⟩) es.length c1],?_⟩
    rw [List.take_add_one,HE.out];exact hrow4
   have HRUN:=Lib.hid hrun
   clear hrun hrow4 ht hb4 hbo hown hrow2 hrow hr1 hb2 hvb HG HE
   go_wp2_with (at_builtin;refine reg.wpList_append rfl rfl rfl rfl rfl HRUN.out ?_)
   go_roundg gk
   case rel=>exact ⟨i + 1,g2,cap2,by omega,rfl,by go_num,HLI.out⟩
   case measure=>omega
  ·have hik2:i = ls.length:=by omega
   subst hik2
   obtain ⟨vs,hrow⟩:=HG.out.row
   rw [List.take_length] at hrow
   have hszw:=HG.out.bel.size
   have hlw:=blk_lt HG.out.res
   have hvl:=hrow.len
   have hvb:=own_blk hrow.row
   have hown:∀ k ∈ (Value.slice (some ⟨g,0,none⟩) ls.length cap).ownBlock.toList,w.heap.size + 2 ≤ k ∧ k < wr.heap.size:=fun k hk=>⟨(hvb k hk).1,(hvb k hk).2.1⟩
   have hbo:Below wr.heap.size wr ((wr.alloc (.cells #[sv [126,114,111,111,109],.int .i64 0,.int .i64 0,sv []] 58 (0,0))).alloc (.cells #[.slice (some ⟨wr.heap.size,0,none⟩) 1 1] 44 (0,0))):=((Below.refl _ _).alloc (Nat.le_refl _) _).alloc (by simp) _
   have hnl:=blk_new (wr.alloc (.cells #[sv [126,114,111,111,109],.int .i64 0,.int .i64 0,sv []] 58 (0,0))) (.cells #[.slice (some ⟨wr.heap.size,0,none⟩) 1 1] 44 (0,0))
   rw [World.size_alloc] at hnl
   have hne:=blk_old (blk_new wr (.cells #[sv [126,114,111,111,109],.int .i64 0,.int .i64 0,sv []] 58 (0,0))) (.cells #[.slice (some ⟨wr.heap.size,0,none⟩) 1 1] 44 (0,0))
   have hrow2:=own_kept hrow.row (fun x hx=>by rw [hbo.block x (hvb x hx).2.1])
   obtain ⟨g2,cap2,W4,hrun,hrow4,ht⟩:=own_app hrow2 hnl (by omega) (by simp;omega)
   have hb4:Below w.heap.size w W4:=(HG.out.bel.trans (hbo.mono hszw)).trans (ht.below (by simp;omega) (fun k hk=>by have:=(hown k hk).1;omega))
   have hbx:W4.heap[w.heap.size]? = some (.cells #[.slice A ls.length c] 24 (0,0)):=ht.kept (blk_below HG.out.box hbo) (fun hm=>by have:=(hown _ hm).1;omega)
   have hrs:W4.heap[w.heap.size + 1]? = some (.cells #[.slice none 0 0] 24 (0,0)):=ht.kept (blk_below HG.out.res hbo) (fun hm=>by have:=(hown _ hm).1;omega)
   have hne4:W4.heap[wr.heap.size]? = some (.cells #[sv [126,114,111,111,109],.int .i64 0,.int .i64 0,sv []] 58 (0,0)):=ht.kept hne (fun hm=>by have:=(hown _ hm).2;omega)
   have hcl := @World.ownsRow.cells _ _ _ _ _ _ _ hrow4
   have hcap:ls.length + 1 ≤ cap2 ∧ cap2 ≤ 9223372036854775807:=by
    obtain ⟨-,⟨hv,-⟩ | ⟨_,_,_,hv,-,-,h4,h5,-⟩⟩:=hrow4
    ·cases hv
    ·cases hv
     exact ⟨h4,by unfold maxLen at h5;omega⟩
   have hlent:LentI W4 (w.heap.size + 2) g2 cap2 ls:=by
    refine ⟨(own_blk hrow4 g2 (by simp [Value.ownBlock])).1,hcap.1,hcap.2,fun j fs hj => ?_,wr.heap.size,by omega,?_,by rw [blk_cell hne4];rfl⟩
    ·obtain ⟨x,y,k1,k2⟩:=hrow.inn j fs hj
     have hjl:=(List.getElem?_eq_some_iff.1 hj).1
     have hc1:=hcl (g:=g2) rfl j (.slice (some ⟨x,0,none⟩) fs.length y) (by rw [List.getElem?_append_left (by omega)];exact k1)
     rw [eadd0] at hc1
     exact ⟨x,y,hc1,own_free hrow2 (k2.below hbo) ht⟩
    ·have hc1:=hcl (g:=g2) rfl ls.length (.slice (some ⟨wr.heap.size,0,none⟩) 1 1) (by rw [List.getElem?_append_right (by omega),hvl,Nat.sub_self];rfl)
     rw [eadd0] at hc1
     exact hc1
   have HRUN:=Lib.hid hrun
   have HLN:=Lib.hid hlent
   have HB4:=Lib.hid hb4
   have HRS:=Lib.hid hrs
   have hc2:=hcap.1
   have hc3:=hcap.2
   have c1:=blk_cell hrs 0
   have f1:=blk_free hrs 0
   have c0:=blk_cell hbx 0
   have l1:=blk_lt hrs
   simp only [List.getElem?_toArray,List.getElem?_cons_zero] at c0 c1
   have k2:=blk_cell (blk_set hrs 0 (.slice (some ⟨g2,0,none⟩) ls.length cap2)) 0
   simp only [List.setIfInBounds_toArray,List.set_cons_zero,List.getElem?_toArray,List.getElem?_cons_zero] at k2
   clear hrun hlent hb4 hbo hown hrow2 hrow hvb HG hrow4 ht hbx hrs hne hne4 hcl hcap hnl
   have hii:¬ (ls.length:Int) < (ls.length:Int):=by omega
   go_wp2_with (at_builtin;refine reg.wpList_append rfl rfl rfl rfl rfl HRUN.out ?_)
   refine bodyPost_ret (v:=.agg #[.slice (some ⟨g2,0,none⟩) ls.length cap2]) (by simp [results,Tryz.results7,go_sem,k2]) rfl ?_
   exact ⟨_,_,rfl,HLN.out.low ((Turned.refl [w.heap.size + 1] _).setCell (p:=⟨w.heap.size + 1,0,none⟩) (by simp) (.slice (some ⟨g2,0,none⟩) ls.length cap2)) (by simp) (by omega),HB4.out.setCell (by simp) _⟩
end Go.Proofs.YtifhnpkapgaboaaGreat.arch
