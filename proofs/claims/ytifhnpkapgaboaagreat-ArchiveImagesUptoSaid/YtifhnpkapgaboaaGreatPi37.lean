/-
  Proved: what the program's fault, May give. Conditions: as each theorem says.
-/
import Derived.Test.YtifhnpkapgaboaaGreatPi35
set_option linter.unusedVariables false
set_option linter.unusedSimpArgs false
namespace Go.Proofs.YtifhnpkapgaboaaGreat.arch
open Go.RowKit
open heap
open path (sv str_size cleanB cleanR belowB)
set_option maxRecDepth 100000
def big (e:Ent):Prop:=e.path.length ≤ 9223372036854775000 ∧ e.data.length ≤ 9223372036854775000
set_option maxHeartbeats 4000000 in
theorem pathedW_any (es:List Ent) (e:Ent) (A:Option Addr) (b o c:Nat) (w:World) (hA:es ≠ [] → A = some ⟨b,o,none⟩) (h:EAt w b o es) (hc:es.length ≤ c) (hcm:c ≤ 9223372036854775807) (hp:∀ x ∈ es,x.path.length ≤ 2000000) (he:e.path.length ≤ 9223372036854775000) :
  Calls Tryz.prog 97 #[entV e,.slice A es.length c] w fun r w'=>r = .returned (.int .i64 (pathE es e)) ∧ Below w.heap.size w w':=by
 have HB:Hid (Below w.heap.size w (w.alloc (entO e))):=(Below.refl _ _).alloc (Nat.le_refl _) _
 have HBX:=Lib.hid (blk_new w (entO e))
 have HCL:=Lib.hid (fun W=>path.Clean_any [] (47 :: e.path) W (by simp) (by simp;omega))
 have HI:=Lib.hid (path.clean_parts e.path)
 have HIF:=Lib.hid (clean_iff e.path)
 have HE:=Lib.hid h
 have HP:=Lib.hid hp
 have HEL:=Lib.hid he
 have zp:=str_size e.path
 have HAD:Hid ((⟨#[47]⟩:ByteArray) ++ ⟨e.path.toArray⟩ = ⟨(47 :: e.path).toArray⟩):=by
  unfold Hid
  rw [show (⟨#[47]⟩:ByteArray) = ⟨([47]:List UInt8).toArray⟩ from rfl,app_str];rfl
 clear h hp
 go_enter Tryz.func97,Tryz.ntmps97
 go_wp2_with fail
 rw [HAD.out]
 refine (HCL.out _).mono ?_;rintro r w1 ⟨rfl,hb⟩
 have HBX1:=Lib.hid (blk_below HBX.out hb)
 have HB1:Hid (Below w.heap.size w w1):=HB.out.trans (hb.mono HB.out.size)
 clear hb HBX HB HCL HAD zp
 obtain ⟨cs,cc,hcr⟩:∃ cs cc,cleanR [] (47 :: e.path) = (cs,cc):=⟨_,_,rfl⟩
 rw [hcr] at HIF ⊢
 simp only at HIF ⊢
 clear hcr
 have p0:=blk_cell (HBX1.out) 0
 have p1:=blk_cell (HBX1.out) 1
 have p2:=blk_cell (HBX1.out) 2
 have p3:=blk_cell (HBX1.out) 3
 have pl:=blk_lt (HBX1.out)
 simp only [List.getElem?_toArray,List.getElem?_cons_zero,List.getElem?_cons_succ] at p0 p1 p2 p3
 by_cases hgood:cc = 0 ∧ e.path ≠ [] ∧ cs = e.path
 ·obtain ⟨rfl,hp0,rfl⟩:=hgood
  replace HEL:Hid (e.path.length ≤ 2000000):=by
   have h1:=(HIF.out.1 ⟨rfl,hp0,rfl⟩).2
   have h2:=(HI.out.1 h1).2.1
   unfold Hid
   omega
  have HPE:Hid (pathE es e = aheadF es e):=by
   have:=HIF.out.1 ⟨rfl,hp0,rfl⟩
   unfold Hid
   rw [pathE_eq,if_neg (fun h=>h.elim this.1 (by rw [this.2];decide))]
  have b0:e.path.isEmpty = false:=by cases hh:e.path with
   | nil=>exact absurd hh hp0
   | cons a l=>rfl
  have b0':(e.path == []) = false:=beq_eq_false_iff_ne.2 hp0
  clear HIF hp0
  go_upto_region 4 with fail
  clear b0 b0'
  by_cases hes:es = []
  ·subst hes
   have HF:Hid (pathE [] e = 0):=by unfold Hid;rw [HPE.out];rfl
   clear HPE
   go_quiet (fail)
   go_wp2_with fail
   go_loopg [7] 0 (fun kk v7 wr=>v7 = .int .i64 (-1) ∧ Hid (Below w.heap.size w wr))
   case atStart=>exact ⟨by go_num,below_drewN HB1.out _⟩
   case round =>
    obtain ⟨rfl,HBr⟩:=hrel
    go_wp2_with fail
    go_ret
    exact ⟨by rw [HF.out];rfl,HBr.out⟩
  ·obtain rfl:=hA hes
   clear hA
   obtain ⟨m,hm⟩:∃ m,es.length = m + 1:=⟨es.length - 1,by have:=List.length_pos_iff.2 hes;omega⟩
   have hl:es[m]? = some es[m]:=List.getElem?_eq_getElem (by omega)
   have HLP:Hid (lastP es = es[m].path):=by
    unfold Hid lastP
    rw [List.getLast?_eq_getElem?,show es.length - 1 = m by omega,hl];rfl
   generalize es[m] = y at hl HLP
   have hyl:=HP.out y (List.mem_of_getElem? hl)
   have HE1:=Lib.hid (HE.out.below HB1.out)
   obtain ⟨y0,-,-,-⟩:=HE1.out m y hl
   have HCE:=Lib.hid (fun W=>eCompare_any y.path e.path W (by omega) (by have:=HEL.out;omega))
   have HGE:=Lib.hid (cmp_less y.path e.path)
   have HNE:=Lib.hid hes
   have HM:=Lib.hid hm
   clear hl hes
   rw [hm]
   rw [hm] at hc
   clear hm
   have hd0:decide ((0:Int) < (m:Int) + 1) = true:=decide_eq_true (by omega)
   have hmw:IntKind.i64.wrap (m:Int) = (m:Int):=IntWalk.i64_in _ (by omega)
   have hmi:(m:Int) < (m:Int) + 1:=by omega
   go_still_tail 13,(by kernel_rfl)
   change wpList _ _ _ _ _ w1.drew
   go_wp2_with fail
   refine (HCE.out _).mono ?_;rintro r w2 ⟨rfl,hb⟩
   have HB2:Hid (Below w.heap.size w w2):=HB1.out.drew.trans (hb.mono HB1.out.size)
   have HBX2:=Lib.hid (blk_below HBX1.out ((Below.refl _ _).drew.trans hb))
   clear p0 p1 p2 p3 pl
   clear hb HCE y0 hd0 HBX1 HB1 HE1
   cases hL:lessB y.path e.path with
   | false =>
    have HF:Hid (pathE es e = 1304):=by
     have h1:=HPE.out
     unfold aheadF at h1
     unfold Hid
     rw [h1,if_pos ⟨HNE.out,by rw [HLP.out];exact hL⟩]
    have hge:decide (0 ≤ cmpE y.path e.path) = true:=by rw [HGE.out,hL];rfl
    clear hL
    go_wp2_with fail
    go_ret
    exact ⟨by rw [HF.out];rfl,HB2.out⟩
   | true =>
    have HF:Hid (pathE es e = if es.any (parB e) then 1305 else 0):=by
     have h1:=HPE.out
     unfold aheadF at h1
     unfold Hid
     rw [h1,if_neg (fun h=>by rw [HLP.out,hL] at h;exact absurd h.2 (by decide))]
    have hge:decide (0 ≤ cmpE y.path e.path) = false:=by rw [HGE.out,hL];rfl
    clear hL
    go_wp2_with fail
    go_loopg [7] (m + 1) (fun kk v7 wr=>∃ j:Nat,j = kk ∧ j ≤ m + 1 ∧ v7 = .int .i64 ((j:Int) - 1) ∧ Hid ((es.drop j).any (parB e) = false) ∧ Hid (Below w2.heap.size w2 wr))
    case atStart=>exact ⟨m + 1,rfl,Nat.le_refl _,by go_num,by unfold Hid;rw [List.drop_eq_nil_of_le (by have:=HM.out;omega)];rfl,Below.refl _ _⟩
    case round =>
     obtain ⟨j,hjk,hjm,rfl,HA,HW⟩:=hrel
     have HBw:Hid (Below w.heap.size w wr):=HB2.out.trans (HW.out.mono HB2.out.size)
     have HBX3:=Lib.hid (blk_below HBX2.out HW.out)
     cases j with
     | zero =>
      have HF2:Hid (pathE es e = 0):=by
       unfold Hid
       rw [HF.out,show es.any (parB e) = false from HA.out];rfl
      have d1:decide ((0:Int) ≤ ((0:Nat):Int) - 1) = false:=by decide
      go_wp2_with fail
      go_ret
      exact ⟨by rw [HF2.out];rfl,HBw.out⟩
     | succ i =>
      rw [show ((i + 1:Nat):Int) - 1 = (i:Int) by omega]
      cases gk with
      | zero=>omega
      | succ gk =>
      have hil:i < es.length:=by have:=HM.out;omega
      obtain ⟨x,hx⟩:∃ x,es[i]? = some x:=⟨_,List.getElem?_eq_getElem hil⟩
      clear hil
      have hxl:=HP.out x (List.mem_of_getElem? hx)
      obtain ⟨x0,x1,x2,x3⟩:=(HE.out.below HBw.out) i x hx
      have HS:=Lib.hid (drop_any es i x (parB e) hx)
      have HH:=Lib.hid (any_hit es i x (parB e) hx)
      have hii:(i:Int) < (m:Int) + 1:=by omega
      have hi0:decide ((0:Int) ≤ (i:Int)) = true:=decide_eq_true (by omega)
      have HNEW:=Lib.hid (blk_new wr (entO x))
      have HBA:Hid (Below wr.heap.size wr (wr.alloc (entO x))):=(Below.refl _ _).alloc (Nat.le_refl _) _
      have HW4:Hid (Below w2.heap.size w2 (wr.alloc (entO x))):=HW.out.trans (HBA.out.mono HW.out.size)
      have HBw4:Hid (Below w.heap.size w (wr.alloc (entO x))):=HBw.out.trans (HBA.out.mono HBw.out.size)
      have HBX4:=Lib.hid (blk_below HBX3.out HBA.out)
      clear hx
      go_upto_region 10 with fail
      change Code.wp _ _ _ _ (wr.alloc (entO x))
      generalize (wr.alloc (entO x)) = w4 at *
      generalize wr.heap.size = b8 at *
      clear x0 x1 x2 x3
      have p0:=blk_cell (HBX4.out) 0
      have p1:=blk_cell (HBX4.out) 1
      have p2:=blk_cell (HBX4.out) 2
      have p3:=blk_cell (HBX4.out) 3
      have pl:=blk_lt (HBX4.out)
      simp only [List.getElem?_toArray,List.getElem?_cons_zero,List.getElem?_cons_succ] at p0 p1 p2 p3
      have q0:=blk_cell (HNEW.out) 0
      have q1:=blk_cell (HNEW.out) 1
      have q2:=blk_cell (HNEW.out) 2
      have q3:=blk_cell (HNEW.out) 3
      have ql:=blk_lt (HNEW.out)
      simp only [List.getElem?_toArray,List.getElem?_cons_zero,List.getElem?_cons_succ] at q0 q1 q2 q3
      by_cases k1:x.kind = 1
      ·have b1':(x.kind == 1) = true:=by simp [k1]
       have c1':(x.kind != 1) = false:=by simp [k1]
       have HA2:Hid ((es.drop i).any (parB e) = false):=by
        unfold Hid;rw [HS.out,HA.out];unfold parB
        rw [show (x.kind != 1) = false by simp [k1]];rfl
       clear HS HH k1
       go_wp2_with fail
       go_roundg gk
       case rel=>exact ⟨i,by omega,by omega,by go_num,HA2,HW4⟩
       case measure=>omega
      ·have b1':(x.kind == 1) = false:=beq_eq_false_iff_ne.2 k1
       have c1':(x.kind != 1) = true:=by simp [bne,k1]
       by_cases k5:x.kind = 5
       ·have b5':(x.kind == 5) = true:=by simp [k5]
        have c5':(x.kind != 5) = false:=by simp [k5]
        have HA2:Hid ((es.drop i).any (parB e) = false):=by
         unfold Hid;rw [HS.out,HA.out];unfold parB
         rw [show (x.kind != 5) = false by simp [k5],Bool.and_false];rfl
        clear HS HH k1 k5
        go_wp2_with fail
        go_roundg gk
        case rel=>exact ⟨i,by omega,by omega,by go_num,HA2,HW4⟩
        case measure=>omega
       ·have b5':(x.kind == 5) = false:=beq_eq_false_iff_ne.2 k5
        have c5':(x.kind != 5) = true:=by simp [bne,k5]
        have hpb:parB e x = belowB e.path x.path:=by
         unfold parB
         rw [show (x.kind != 1) = true by simp [bne,k1],show (x.kind != 5) = true by simp [bne,k5]];rfl
        rw [hpb] at HS HH
        clear k1 k5 hpb
        go_wp2_with fail
        refine (path.Below_any e.path x.path _ (by omega)).mono ?_;rintro r w5 ⟨rfl,hb⟩
        have HW5:Hid (Below w2.heap.size w2 w5):=HW4.out.trans (hb.mono HW4.out.size)
        have HBw5:Hid (Below w.heap.size w w5):=HBw4.out.trans (hb.mono HBw4.out.size)
        clear hb
        cases hbb:belowB e.path x.path with
        | false =>
         rw [hbb] at HS
         have HA2:Hid ((es.drop i).any (parB e) = false):=by unfold Hid;rw [HS.out,HA.out];rfl
         clear HS HH hbb
         go_wp2_with fail
         go_roundg gk
         case rel=>exact ⟨i,by omega,by omega,by go_num,HA2,HW5⟩
         case measure=>omega
        | true =>
         have HF2:Hid (pathE es e = 1305):=by unfold Hid;rw [HF.out,HH.out hbb];rfl
         clear HS HH hbb
         go_wp2_with fail
         go_ret
         exact ⟨by rw [HF2.out];rfl,HBw5.out⟩
 ·have HPE:Hid (pathE es e = 1303):=by
   have:¬ (e.path ≠ [] ∧ cleanB e.path = true):=fun h=>hgood (HIF.out.2 h)
   unfold Hid
   rw [pathE_eq,if_pos]
   by_cases h0:e.path = []
   ·exact .inl h0
   ·cases hcb:cleanB e.path with
    | false=>exact .inr rfl
    | true=>exact absurd ⟨h0,hcb⟩ this
  clear HIF
  by_cases h1:cc = 0
  ·subst h1
   by_cases h2:e.path = []
   ·have b0:e.path.isEmpty = true:=by rw [h2];rfl
    clear hgood h2
    go_wp2_with fail
    go_ret
    exact ⟨by rw [HPE.out];rfl,HB1.out⟩
   ·have h3:cs ≠ e.path:=fun e1=>hgood ⟨rfl,h2,e1⟩
    have b0:e.path.isEmpty = false:=by cases hh:e.path with
     | nil=>exact absurd hh h2
     | cons a l=>rfl
    have b0':(e.path == []) = false:=beq_eq_false_iff_ne.2 h2
    have b1:(cs == e.path) = false:=beq_eq_false_iff_ne.2 h3
    clear hgood h2 h3
    go_wp2_with fail
    go_ret
    exact ⟨by rw [HPE.out];rfl,HB1.out⟩
  ·have hb:(cc != 0) = true:=by simp [bne,h1]
   clear h1 hgood
   go_wp2_with fail
   go_ret
   exact ⟨by rw [HPE.out];rfl,HB1.out⟩
set_option maxHeartbeats 2000000 in
theorem faultW_any (es:List Ent) (e:Ent) (b o c:Nat) (w:World) (h:EAt w b o es) (hc:es.length ≤ c) (hcm:c ≤ 9223372036854775807) (hp:∀ x ∈ es,x.path.length ≤ 2000000) (he:big e) :
  Calls Tryz.prog 65 #[entV e,.slice (some ⟨b,o,none⟩) es.length c] w fun r w'=>r = .returned (.int .i64 (entF es e)) ∧ Below w.heap.size w w':=by
 have HB:Hid (Below w.heap.size w (w.alloc (entO e))):=(Below.refl _ _).alloc (Nat.le_refl _) _
 have HBX:=Lib.hid (blk_new w (entO e))
 have HPA:=Lib.hid (fun W (hW:Below w.heap.size w W)=>pathedW_any es e (some ⟨b,o,none⟩) b o c W (fun _=>rfl) (h.below hW) hc hcm hp he.1)
 have hdl:=he.2
 clear h hc hcm hp he
 go_enter Tryz.func65,Tryz.ntmps65
 go_wp2_with fail
 refine (known_any e.kind _).mono ?_;rintro r w' ⟨rfl,rfl⟩
 by_cases hk:e.kind < 1 ∨ 5 < e.kind
 ·have HF:Hid (entF es e = 1302):=by unfold Hid entF;rw [if_pos hk]
  have hkb:(decide (1 ≤ e.kind) && decide (e.kind ≤ 5)) = false:=by
   rcases hk with h | h
   ·rw [decide_eq_false (show ¬ 1 ≤ e.kind by omega)];rfl
   ·rw [decide_eq_false (show ¬ e.kind ≤ 5 by omega),Bool.and_false]
  rw [hkb]
  clear hk hkb
  go_wp2_with fail
  go_ret
  exact ⟨by rw [HF.out];rfl,HB.out⟩
 have hkb:(decide (1 ≤ e.kind) && decide (e.kind ≤ 5)) = true:=by
  rw [decide_eq_true (show 1 ≤ e.kind by omega),decide_eq_true (show e.kind ≤ 5 by omega)];rfl
 have HF1:Hid (entF es e = if pathE es e ≠ 0 then pathE es e else if modeB e.kind e.mode = false then 1306 else if lenB e.kind e.data.length = false then 1307 else if e.kind = 3 ∧ (0:UInt8) ∈ e.data then 1308 else 0):=by
  unfold Hid entF;rw [if_neg hk]
 rw [hkb]
 clear hk hkb
 go_wp2_with fail
 refine (HPA.out _ HB.out).mono ?_;rintro r w2 ⟨rfl,hb⟩
 have HBX2:=Lib.hid (blk_below HBX.out hb)
 have HB2:Hid (Below w.heap.size w w2):=HB.out.trans (hb.mono HB.out.size)
 clear hb HBX HB HPA
 by_cases ha:pathE es e = 0
 ·rw [ha] at HF1 ⊢
  rw [if_neg (by simp)] at HF1
  clear ha
  have p0:=blk_cell (HBX2.out) 0
  have p1:=blk_cell (HBX2.out) 1
  have p2:=blk_cell (HBX2.out) 2
  have p3:=blk_cell (HBX2.out) 3
  have pl:=blk_lt (HBX2.out)
  simp only [List.getElem?_toArray,List.getElem?_cons_zero,List.getElem?_cons_succ] at p0 p1 p2 p3
  go_wp2_with fail
  refine (moded_any e _).mono ?_;rintro r w3 ⟨rfl,hb⟩
  have HBX3:=Lib.hid (blk_below HBX2.out hb)
  have HB3:Hid (Below w.heap.size w w3):=HB2.out.trans (hb.mono HB2.out.size)
  clear p0 p1 p2 p3 pl
  clear hb HBX2 HB2
  cases hm:modeB e.kind e.mode with
  | false =>
   rw [hm,if_pos rfl] at HF1
   clear hm
   go_wp2_with fail
   go_ret
   exact ⟨by rw [HF1.out];rfl,HB3.out⟩
  | true =>
   rw [hm,if_neg (by decide)] at HF1
   clear hm
   have p0:=blk_cell (HBX3.out) 0
   have p1:=blk_cell (HBX3.out) 1
   have p2:=blk_cell (HBX3.out) 2
   have p3:=blk_cell (HBX3.out) 3
   have pl:=blk_lt (HBX3.out)
   simp only [List.getElem?_toArray,List.getElem?_cons_zero,List.getElem?_cons_succ] at p0 p1 p2 p3
   go_wp2_with fail
   refine (sized_any e.kind e.data.length _).mono ?_;rintro r w' ⟨rfl,rfl⟩
   cases hl:lenB e.kind e.data.length with
   | false =>
    rw [hl,if_pos rfl] at HF1
    clear hl
    go_wp2_with fail
    go_ret
    exact ⟨by rw [HF1.out];rfl,HB3.out⟩
   | true =>
    rw [hl,if_neg (by decide)] at HF1
    clear hl
    by_cases k3:e.kind = 3
    ·have b3:(e.kind == 3) = true:=by simp [k3]
     go_wp2_with fail
     refine (Tryz.strings_Contains_one ⟨e.data.toArray⟩ 0 _).mono ?_;rintro r w' ⟨rfl,rfl⟩
     rw [show (⟨e.data.toArray⟩:ByteArray).data.toList = e.data from rfl,index_mem]
     by_cases hz:(0:UInt8) ∈ e.data
     ·rw [if_pos ⟨k3,hz⟩] at HF1
      rw [decide_eq_true hz]
      clear k3 hz
      go_wp2_with fail
      go_ret
      exact ⟨by rw [HF1.out];rfl,HB3.out⟩
     ·rw [if_neg (fun h=>hz h.2)] at HF1
      rw [decide_eq_false hz]
      clear k3 hz
      go_wp2_with fail
      go_ret
      exact ⟨by rw [HF1.out];rfl,HB3.out⟩
    ·have b3:(e.kind == 3) = false:=beq_eq_false_iff_ne.2 k3
     rw [if_neg (fun h=>k3 h.1)] at HF1
     clear k3
     go_wp2_with fail
     go_ret
     exact ⟨by rw [HF1.out];rfl,HB3.out⟩
 ·have hab:(pathE es e != 0) = true:=by simp [bne,ha]
  rw [if_pos ha] at HF1
  clear ha
  go_wp2_with fail
  go_ret
  exact ⟨by rw [HF1.out];rfl,HB2.out⟩
set_option maxHeartbeats 2000000 in
theorem MayW_any (es:List Ent) (b o c:Nat) (w:World) (h:EAt w b o es) (hc:es.length ≤ c) (hcm:c ≤ 9223372036854775807) (hp:∀ x ∈ es,big x) :
  Calls Tryz.prog 27 #[layV b o es.length c] w fun r w'=>r = .returned (.tuple #[.int .i64 (formL es).1,.int .i64 (formL es).2]) ∧ Below w.heap.size w w':=by
 have HB:Hid (Below w.heap.size w (w.alloc (.cells #[.slice (some ⟨b,o,none⟩) es.length c] 44 (0,0)))):=(Below.refl _ _).alloc (Nat.le_refl _) _
 have hbx:=blk_new w (.cells #[.slice (some ⟨b,o,none⟩) es.length c] 44 (0,0))
 by_cases hm:256 < es.length
 ·have HF:Hid (formL es = (0,1309)):=by unfold Hid formL;rw [if_pos hm]
  have d1:decide (256 < (es.length:Int)) = true:=decide_eq_true (by omega)
  clear h hp hm
  go_enter Tryz.func27,Tryz.ntmps27
  go_wp2_with fail
  go_ret2
  exact ⟨by rw [HF.out];rfl,HB.out⟩
 have d1:decide (256 < (es.length:Int)) = false:=decide_eq_false (by omega)
 have HF:Hid (formL es = formG es es.length 0):=by unfold Hid formL;rw [if_neg hm]
 have HFM:=Lib.hid (fun i (x:Ent) W (hx:es[i]? = some x) (hW:Below w.heap.size w W) (hi:i < es.length) (hk:∀ (j:Nat) y,j < i → es[j]? = some y → entF (es.take j) y = 0)=>faultW_any (es.take i) x b o c W ((h.below hW).take i) (by rw [List.length_take];omega) hcm (fun y hy=>by
  obtain ⟨j,hj⟩:=List.mem_iff_getElem?.1 hy
  have hji:j < i:=by have:=(List.getElem?_eq_some_iff.1 hj).1;rw [List.length_take] at this;omega
  rw [List.getElem?_take,if_pos hji] at hj
  have:=(ent_ok (hk j y hji hj)).2.2.2.1
  omega) (hp x (List.mem_of_getElem? hx)))
 have HE:=Lib.hid h
 clear h hp
 go_enter Tryz.func27,Tryz.ntmps27
 go_wp2_with fail
 change Code.wp _ _ _ _ (w.alloc (.cells #[.slice (some ⟨b,o,none⟩) es.length c] 44 (0,0)))
 generalize (w.alloc (.cells #[.slice (some ⟨b,o,none⟩) es.length c] 44 (0,0))) = w1 at *
 have HBX:=Lib.hid hbx
 clear hbx d1
 go_loopg [14] es.length (fun kk v14 wr=>∃ i:Nat,i + kk = es.length ∧ v14 = .int .i64 i ∧ Hid (formL es = formG es (es.length - i) i) ∧ Hid (Below w1.heap.size w1 wr) ∧ Hid (∀ (j:Nat) y,j < i → es[j]? = some y → entF (es.take j) y = 0))
 case atStart=>exact ⟨0,by omega,rfl,HF,Below.refl _ _,fun j y hj=>by omega⟩
 case round =>
  clear HF
  obtain ⟨i,hik,rfl,HF,HW,HK⟩:=hrel
  have HBw:Hid (Below w.heap.size w wr):=HB.out.trans (HW.out.mono HB.out.size)
  by_cases hlt:i < es.length
  ·cases gk with
   | zero=>omega
   | succ gk =>
   obtain ⟨x,hx⟩:∃ x,es[i]? = some x:=⟨_,List.getElem?_eq_getElem hlt⟩
   obtain ⟨x0,x1,x2,x3⟩:=(HE.out.below HBw.out) i x hx
   have hii:(i:Int) < (es.length:Int):=by omega
   have hic:(i:Int) ≤ (c:Int):=by omega
   have HNEW:=Lib.hid (blk_new wr (entO x))
   have HBA:Hid (Below wr.heap.size wr (wr.alloc (entO x))):=(Below.refl _ _).alloc (Nat.le_refl _) _
   have HW4:Hid (Below w1.heap.size w1 (wr.alloc (entO x))):=HW.out.trans (HBA.out.mono HW.out.size)
   have HBw4:Hid (Below w.heap.size w (wr.alloc (entO x))):=HBw.out.trans (HBA.out.mono HBw.out.size)
   have HC:=HFM.out i x (wr.alloc (entO x)).drew hx HBw4.out.drew hlt HK.out
   rw [List.length_take,Nat.min_eq_left (by omega)] at HC
   have HS:=Lib.hid (formG_step es (es.length - (i + 1)) i x hx)
   rw [show es.length - (i + 1) + 1 = es.length - i by omega] at HS
   have HC:=Lib.hid HC
   have HXI:=Lib.hid hx
   clear hx
   go_upto_region 6 with fail
   change Code.wp _ _ _ _ (wr.alloc (entO x))
   generalize (wr.alloc (entO x)) = w4 at *
   generalize wr.heap.size = b5 at *
   clear x0 x1 x2 x3
   have hq:=blk_below HBX.out HW4.out
   have q0:=blk_cell hq 0
   have ql:=blk_lt hq
   simp only [List.getElem?_toArray,List.getElem?_cons_zero] at q0
   clear hq
   have p0:=blk_cell (HNEW.out) 0
   have p1:=blk_cell (HNEW.out) 1
   have p2:=blk_cell (HNEW.out) 2
   have p3:=blk_cell (HNEW.out) 3
   have pl:=blk_lt (HNEW.out)
   simp only [List.getElem?_toArray,List.getElem?_cons_zero,List.getElem?_cons_succ] at p0 p1 p2 p3
   go_still_tail 5,(by kernel_rfl)
   change wpList _ _ _ _ _ w4.drew
   go_wp2_with fail
   refine HC.out.mono ?_;rintro r w2 ⟨rfl,hb⟩
   have HW2:Hid (Below w1.heap.size w1 w2):=HW4.out.trans ((Below.refl _ _).drew.trans (hb.mono (Nat.le_refl _)) |>.mono HW4.out.size)
   have HBw2:Hid (Below w.heap.size w w2):=HB.out.trans (HW2.out.mono HB.out.size)
   clear p0 p1 p2 p3 pl
   clear hb HC HW HBw HW4 HBw4 q0 ql
   by_cases hf:entF (es.take i) x = 0
   ·have HK2:Hid (∀ (j:Nat) y,j < i + 1 → es[j]? = some y → entF (es.take j) y = 0):=fun j y hj hy=>by
     by_cases hji:j = i
     ·subst hji
      rw [HXI.out] at hy
      cases hy
      exact hf
     ·exact HK.out j y (by omega) hy
    rw [hf] at HS ⊢
    rw [if_pos rfl] at HS
    clear hf
    go_wp2_with fail
    go_roundg gk
    case rel=>exact ⟨i + 1,by omega,by go_num,HF.out.trans HS.out,HW2.out,HK2.out⟩
    case measure=>omega
   ·have hfb:(entF (es.take i) x != 0) = true:=by simp [bne,hf]
    rw [if_neg hf] at HS
    have HF2:=Lib.hid (HF.out.trans HS.out)
    clear hf HS HF
    go_wp2_with fail
    go_ret2
    exact ⟨by rw [HF2.out];rfl,HBw2.out⟩
  ·have hi2:i = es.length:=by omega
   subst hi2
   rw [Nat.sub_self] at HF
   have HF2:Hid (formL es = (0,0)):=HF.out
   clear HF
   go_wp2_with fail
   go_ret2
   exact ⟨by rw [HF2.out];rfl,HBw.out⟩
end Go.Proofs.YtifhnpkapgaboaaGreat.arch
