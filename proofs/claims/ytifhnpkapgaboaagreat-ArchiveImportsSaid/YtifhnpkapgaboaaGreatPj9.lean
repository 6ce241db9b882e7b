/-
  Proved: what the document's Less, ahead, form, Form give. Conditions: as each theorem says.
  Proved: what the document's form, Form give. Conditions: as each theorem says.
-/
import Derived.Test.YtifhnpkapgaboaaGreatPj8
import Derived.StillTailTactics
set_option linter.unusedVariables false
set_option linter.unusedSimpArgs false
namespace Go.Proofs.YtifhnpkapgaboaaGreat.arch
open Go.RowKit
open heap
open path (sv str_size cleanB belowB)
set_option maxRecDepth 100000
theorem less_drop (a b:Nm) (j:Nat) (h1:j < a.length) (h2:j < b.length):lessB (a.drop j) (b.drop j) = if a[j] = b[j] then lessB (a.drop (j + 1)) (b.drop (j + 1)) else a[j] == 47 || (b[j] != 47 && decide (a[j] < b[j])):=by
 rw [List.drop_eq_getElem_cons h1,List.drop_eq_getElem_cons h2,lessB]
theorem less_end (a b:Nm) (j:Nat) (h1:j ≤ a.length) (h2:j ≤ b.length) (h:j = a.length ∨ j = b.length):lessB (a.drop j) (b.drop j) = decide (a.length < b.length):=by
 by_cases hb:j = b.length
 ·subst hb
  rw [List.drop_length,decide_eq_false (by omega)]
  cases a.drop b.length <;> rfl
 ·have ha:j = a.length:=by
   rcases h with h | h
   ·exact h
   ·exact absurd h hb
  subst ha
  rw [List.drop_length,decide_eq_true (by omega)]
  cases hd:b.drop a.length with
  | nil =>
   have:=congrArg List.length hd
   rw [List.length_drop,List.length_nil] at this
   omega
  | cons x l=>rfl
set_option maxHeartbeats 2000000 in
theorem less_any (a b:Nm) (w:World) (ha:a.length ≤ 9223372036854775806) (hb:b.length ≤ 9223372036854775806) :
  Calls Tryz.prog 54 #[sv a,sv b] w fun e w'=>e = .returned (.bool (lessB a b)) ∧ ∃ m,w' = w.drewN m:=by
 have za:=str_size a
 have zb:=str_size b
 go_enter Tryz.func54,Tryz.ntmps54
 go_wp2_with fail
 go_loopg [5] a.length (fun kk v5 wr=>∃ (j n:Nat),j + kk = a.length ∧ j ≤ b.length ∧ v5 = .int .i64 j ∧ Hid (lessB a b = lessB (a.drop j) (b.drop j)) ∧ wr = w.drewN n)
 case atStart=>exact ⟨0,0,by omega,by omega,rfl,rfl,rfl⟩
 case round =>
  obtain ⟨j,n,hjk,hjb,rfl,HL,rfl⟩:=hrel
  by_cases h1:j < a.length
  ·cases gk with
   | zero=>omega
   | succ gk =>
   have d1:decide ((j:Int) < (a.length:Int)) = true:=decide_eq_true (by omega)
   by_cases h2:j < b.length
   ·have d2:decide ((j:Int) < (b.length:Int)) = true:=decide_eq_true (by omega)
    have hza:j < (⟨a.toArray⟩:ByteArray).size:=by rw [za];exact h1
    have hzb:j < (⟨b.toArray⟩:ByteArray).size:=by rw [zb];exact h2
    obtain ⟨x,hx⟩:∃ x:UInt8,(⟨a.toArray⟩:ByteArray)[j]'hza = x:=⟨_,rfl⟩
    obtain ⟨y,hy⟩:∃ y:UInt8,(⟨b.toArray⟩:ByteArray)[j]'hzb = y:=⟨_,rfl⟩
    have hL:=less_drop a b j h1 h2
    rw [show a[j] = x from hx,show b[j] = y from hy] at hL
    have HL2:=Lib.hid (HL.out.trans hL)
    clear hL HL
    obtain ⟨c,hc⟩:∃ c:Nat,x.toNat = c:=⟨_,rfl⟩
    obtain ⟨d,hd⟩:∃ d:Nat,y.toNat = d:=⟨_,rfl⟩
    by_cases hxy:x = y
    ·have HL3:Hid (lessB a b = lessB (a.drop (j + 1)) (b.drop (j + 1))):=by
      have:=HL2.out
      rw [if_pos hxy] at this
      exact this
     have hcd:d = c:=by rw [← hc,← hd,hxy]
     subst hcd
     clear hxy HL2
     go_wp2_with fail
     go_quiet (fail)
     go_wp2_with fail
     go_roundg gk
     case rel=>exact ⟨j + 1,_,by omega,by omega,by go_num,HL3,rfl⟩
     case measure=>omega
    ·have hcd:c ≠ d:=fun e=>hxy (UInt8.toNat_inj.1 (by rw [hc,hd,e]))
     have hcdb:((c:Int) != (d:Int)) = true:=by simp [bne];omega
     have hcde:((c:Int) == (d:Int)) = false:=by rw [beq_eq_false_iff_ne];omega
     have HL3:Hid (lessB a b = (x == 47 || (y != 47 && decide (x < y)))):=by
      have:=HL2.out
      rw [if_neg hxy] at this
      exact this
     clear HL2 hxy
     by_cases e1:x = 47
     ·have HL4:Hid (lessB a b = true):=by unfold Hid;rw [HL3.out,e1];rfl
      have n1:c = 47:=by rw [← hc,e1];rfl
      subst n1
      clear e1 HL3
      go_wp2_with fail
      go_quiet (fail)
      go_wp2_with fail
      go_quiet (fail)
      go_wp2_with fail
      go_ret
      exact ⟨by rw [HL4.out];rfl,_,by rw [drewN_add,drewN_add]⟩
     ·have n1:c ≠ 47:=fun h=>e1 (UInt8.toNat_inj.1 (hc.trans h))
      have n2:((c:Int) == 47) = false:=by rw [beq_eq_false_iff_ne];omega
      by_cases e2:y = 47
      ·have HL4:Hid (lessB a b = false):=by
        unfold Hid
        rw [HL3.out,e2,show (x == 47) = false from beq_eq_false_iff_ne.2 e1];rfl
       have m1:d = 47:=by rw [← hd,e2];rfl
       subst m1
       clear e1 e2 HL3 hcd n1
       go_wp2_with fail
       go_quiet (fail)
       go_wp2_with fail
       go_quiet (fail)
       go_wp2_with fail
       go_ret
       exact ⟨by rw [HL4.out];rfl,_,by rw [drewN_add,drewN_add]⟩
      ·have m1:d ≠ 47:=fun h=>e2 (UInt8.toNat_inj.1 (hd.trans h))
       have m2:((d:Int) != 47) = true:=by simp [bne];omega
       have m3:((d:Int) == 47) = false:=by rw [beq_eq_false_iff_ne];omega
       have HL4:Hid (lessB a b = decide (c < d)):=by
        unfold Hid
        rw [HL3.out,show (x == 47) = false from beq_eq_false_iff_ne.2 e1,show (y != 47) = true by simp [bne,e2],Bool.false_or,Bool.true_and]
        exact decide_eq_decide.2 (by rw [UInt8.lt_iff_toNat_lt,hc,hd])
       clear e1 e2 HL3
       go_wp2_with fail
       go_quiet (fail)
       go_wp2_with fail
       go_quiet (fail)
       go_wp2_with fail
       go_ret
       exact ⟨by rw [HL4.out];rfl,_,by rw [drewN_add,drewN_add]⟩
   ·have d2:decide ((j:Int) < (b.length:Int)) = false:=decide_eq_false (by omega)
    have HL3:Hid (lessB a b = decide (a.length < b.length)):=HL.out.trans (less_end a b j (by omega) hjb (.inr (by omega)))
    clear HL
    go_wp2_with fail
    go_ret
    exact ⟨by rw [HL3.out];rfl,_,rfl⟩
  ·have d1:decide ((j:Int) < (a.length:Int)) = false:=decide_eq_false (by omega)
   have HL3:Hid (lessB a b = decide (a.length < b.length)):=HL.out.trans (less_end a b j (by omega) hjb (.inl (by omega)))
   clear HL
   go_wp2_with fail
   go_ret
   exact ⟨by rw [HL3.out];rfl,_,rfl⟩
def aheadF (es:List Ent) (e:Ent):Int:=if es ≠ [] ∧ lessB (lastP es) e.path = false then 1304 else if es.any (parB e) then 1305 else 0
theorem pathE_eq (es:List Ent) (e:Ent):pathE es e = if e.path = [] ∨ cleanB e.path = false then 1303 else aheadF es e:=rfl
theorem any_succ (es:List Ent) (i:Nat) (x:Ent) (f:Ent → Bool) (h:es[i]? = some x):(es.take (i + 1)).any f = ((es.take i).any f || f x):=by
 rw [List.take_add_one,h,List.any_append];simp
theorem any_hit (es:List Ent) (i:Nat) (x:Ent) (f:Ent → Bool) (h:es[i]? = some x) (hf:f x = true):es.any f = true:=List.any_eq_true.2 ⟨x,List.mem_of_getElem? h,hf⟩
set_option maxHeartbeats 2000000 in
theorem ahead_any (es:List Ent) (e:Ent) (b o c:Nat) (w:World) (h:EAt w b o es) (hc:es.length ≤ c) (hcm:c ≤ 9223372036854775807) (hp:∀ x ∈ es,x.path.length ≤ 2000000) (he:e.path.length ≤ 2000000) :
  Calls Tryz.prog 102 #[.slice (some ⟨b,o,none⟩) es.length c,entV e] w fun r w'=>r = .returned (.int .i64 (aheadF es e)) ∧ Below w.heap.size w w':=by
 have HB:Hid (Below w.heap.size w (w.alloc (entO e))):=(Below.refl _ _).alloc (Nat.le_refl _) _
 have HE:=Lib.hid (h.below HB.out)
 have hbox:=blk_new w (entO e)
 have HP:=Lib.hid hp
 clear h hp
 by_cases hes:es = []
 ·subst hes
  go_enter Tryz.func102,Tryz.ntmps102
  go_wp2_with fail
  change Code.wp _ _ _ _ (w.alloc (entO e))
  generalize w.alloc (entO e) = w1 at *
  have q0:=blk_cell hbox 0
  simp only [List.getElem?_toArray,List.getElem?_cons_zero,List.getElem?_cons_succ] at q0
  go_quiet (fail)
  go_wp2_with fail
  go_loopg [5] 0 (fun kk v5 wr=>v5 = .int .i64 0 ∧ ∃ n,wr = w1.drewN n)
  case atStart=>exact ⟨rfl,_,rfl⟩
  case round =>
   obtain ⟨rfl,n,rfl⟩:=hrel
   go_wp2_with fail
   go_ret
   exact ⟨rfl,below_drewN HB.out _⟩
 ·obtain ⟨m,hm⟩:∃ m,es.length = m + 1:=⟨es.length - 1,by have:=List.length_pos_iff.2 hes;omega⟩
  have hl:es[m]? = some es[m]:=List.getElem?_eq_getElem (by omega)
  have HLP:Hid (lastP es = es[m].path):=by
   unfold Hid lastP
   rw [List.getLast?_eq_getElem?,show es.length - 1 = m by omega,hl];rfl
  generalize es[m] = y at hl HLP
  have hyl:=HP.out y (List.mem_of_getElem? hl)
  obtain ⟨y0,-,-,-⟩:=HE.out m y hl
  have HLS:=Lib.hid (fun W=>less_any y.path e.path W (by omega) (by omega))
  have HNE:=Lib.hid hes
  have HM:=Lib.hid hm
  clear hl hes
  rw [hm]
  rw [hm] at hc
  clear hm
  go_enter Tryz.func102,Tryz.ntmps102
  go_wp2_with fail
  change Code.wp _ _ _ _ (w.alloc (entO e))
  generalize w.alloc (entO e) = w1 at *
  have q0:=blk_cell hbox 0
  simp only [List.getElem?_toArray,List.getElem?_cons_zero,List.getElem?_cons_succ] at q0
  have hd0:decide ((0:Int) < (m:Int) + 1) = true:=decide_eq_true (by omega)
  have hmw:IntKind.i64.wrap ((m:Int) + 1 - 1) = (m:Int):=by rw [IntWalk.i64_in _ (by omega)];omega
  have hmi:(m:Int) < (m:Int) + 1:=by omega
  cases hL:lessB y.path e.path with
  | false =>
   rw [hL] at HLS
   have HF:Hid (aheadF es e = 1304):=by unfold Hid aheadF;rw [if_pos ⟨HNE.out,by rw [HLP.out];exact hL⟩]
   clear hL
   go_quiet ((first | (go_at_call 54;with_reducible exact still2 (HLS.out _))))
   go_wp2_with fail
   go_ret
   exact ⟨by rw [HF.out];rfl,below_drewN HB.out _⟩
  | true =>
   rw [hL] at HLS
   have HF:Hid (aheadF es e = if es.any (parB e) then 1305 else 0):=by unfold Hid aheadF;rw [if_neg (fun h=>by rw [HLP.out,hL] at h;exact absurd h.2 (by decide))]
   clear hL
   go_quiet ((first | (go_at_call 54;with_reducible exact still2 (HLS.out _))))
   clear HLS y0 hmw hmi hd0
   go_wp2_with fail
   go_loopg [5] (m + 1) (fun kk v5 wr=>∃ i:Nat,i + kk = m + 1 ∧ v5 = .int .i64 i ∧ Hid ((es.take i).any (parB e) = false) ∧ Hid (Below w1.heap.size w1 wr))
   case atStart=>exact ⟨0,by omega,rfl,by unfold Hid;rw [List.take_zero];rfl,below_drewN (Below.refl _ _) _⟩
   case round =>
    obtain ⟨i,hik,rfl,HA,HW⟩:=hrel
    have hq:=blk_below hbox HW.out
    have HEn:=Lib.hid (HE.out.below HW.out)
    clear q0
    have q0:=blk_cell hq 0
    simp only [List.getElem?_toArray,List.getElem?_cons_zero,List.getElem?_cons_succ] at q0
    clear hq
    have HBw:Hid (Below w.heap.size w wr):=HB.out.trans (HW.out.mono HB.out.size)
    by_cases hlt:i < m + 1
    ·cases gk with
     | zero=>omega
     | succ gk =>
     have hil:i < es.length:=by have:=HM.out;omega
     obtain ⟨x,hx⟩:∃ x,es[i]? = some x:=⟨_,List.getElem?_eq_getElem hil⟩
     clear hil
     have hxl:=HP.out x (List.mem_of_getElem? hx)
     obtain ⟨x0,x1,-,-⟩:=HEn.out i x hx
     have HS:=Lib.hid (any_succ es i x (parB e) hx)
     have HH:=Lib.hid (any_hit es i x (parB e) hx)
     have hii:(i:Int) < (m:Int) + 1:=by omega
     clear hx
     by_cases k1:x.kind = 1
     ·have b1':(x.kind != 1) = false:=by simp [k1]
      have HA2:Hid ((es.take (i + 1)).any (parB e) = false):=by unfold Hid;rw [HS.out,HA.out];unfold parB;rw [b1'];rfl
      clear HS HH k1
      go_wp2_with fail
      go_quiet (fail)
      go_wp2_with fail
      go_roundg gk
      case rel=>exact ⟨i + 1,by omega,by go_num,HA2,HW.out.trans (below_drewN ((Below.refl _ _).mono HW.out.size) _)⟩
      case measure=>omega
     ·have b1':(x.kind != 1) = true:=by simp [bne,k1]
      by_cases k5:x.kind = 5
      ·have b5':(x.kind != 5) = false:=by simp [k5]
       have HA2:Hid ((es.take (i + 1)).any (parB e) = false):=by unfold Hid;rw [HS.out,HA.out];unfold parB;rw [b1',b5'];rfl
       clear HS HH k1 k5
       go_wp2_with fail
       go_quiet (fail)
       go_wp2_with fail
       go_roundg gk
       case rel=>exact ⟨i + 1,by omega,by go_num,HA2,HW.out.trans (below_drewN ((Below.refl _ _).mono HW.out.size) _)⟩
       case measure=>omega
      ·have b5':(x.kind != 5) = true:=by simp [bne,k5]
       have HBL:=Lib.hid (fun W=>path.rBelow_any e.path x.path W he hxl)
       cases hbb:belowB e.path x.path with
       | false =>
        rw [hbb] at HBL
        have HA2:Hid ((es.take (i + 1)).any (parB e) = false):=by unfold Hid;rw [HS.out,HA.out];unfold parB;rw [b1',b5',hbb];rfl
        clear HS HH k1 k5 hbb
        go_wp2_with fail
        go_quiet ((first | (go_at_call 127;with_reducible exact still (HBL.out _))))
        go_wp2_with fail
        go_roundg gk
        case rel=>exact ⟨i + 1,by omega,by go_num,HA2,HW.out.trans (below_drewN ((Below.refl _ _).mono HW.out.size) _)⟩
        case measure=>omega
       | true =>
        rw [hbb] at HBL
        have HF2:Hid (aheadF es e = 1305):=by unfold Hid;rw [HF.out,HH.out (by unfold parB;rw [b1',b5',hbb];rfl)];rfl
        clear HS HH k1 k5 hbb
        go_wp2_with fail
        go_quiet ((first | (go_at_call 127;with_reducible exact still (HBL.out _))))
        go_wp2_with fail
        go_ret
        exact ⟨by rw [HF2.out];rfl,below_drewN HBw.out _⟩
    ·have hi2:i = m + 1:=by omega
     subst hi2
     have HF2:Hid (aheadF es e = 0):=by
      unfold Hid
      have:=HA.out
      rw [← HM.out,List.take_length] at this
      rw [HF.out,this];rfl
     go_wp2_with fail
     go_ret
     exact ⟨by rw [HF2.out];rfl,HBw.out⟩
def small (e:Ent):Prop:=e.path.length ≤ 2000000 ∧ e.data.length ≤ 2000000
abbrev layV (b o n c:Nat):Value:=.agg #[.slice (some ⟨b,o,none⟩) n c]
theorem formG_step (es:List Ent) (f i:Nat) (e:Ent) (h:es[i]? = some e):formG es (f + 1) i = if entF (es.take i) e = 0 then formG es f (i + 1) else ((i:Int),entF (es.take i) e):=by
 rw [formG,List.getD_eq_getElem?_getD,h];rfl
end Go.Proofs.YtifhnpkapgaboaaGreat.arch
