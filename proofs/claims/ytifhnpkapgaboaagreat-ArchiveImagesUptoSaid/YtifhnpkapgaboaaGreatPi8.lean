/-
  Proved: what the document's own Name, Join, Below give; that SameTexts says true of equal rows. Conditions: as each theorem says.
  Proved: what the document's own Cut and Parts give; SameTexts, SpoilTexts. Conditions: as each theorem says.
  Proved: the document's tree in memory: nodes, their rows, what stays where others are written. Conditions: as each theorem says.
  Proved: the document's tree: a name among a node's kids, a new node's number. Conditions: as each theorem says.
-/
import Derived.Test.YtifhnpkapgaboaaGreatPi7
import Derived.Test.YtifhnpkapgaboaaGreatPi1
import Derived.Deep.DeepAppendWide
set_option linter.unusedVariables false
set_option linter.unusedSimpArgs false
namespace Go.Proofs.YtifhnpkapgaboaaGreat.path
open Go.RowKit Go.Shelf
open heap
theorem name_eq (l:List UInt8) (h0:l ≠ []) (b:Bool) (h:b = true ↔ ((l = [46] ∨ l = [46,46] ∨ 16 < l.length) ∨ (47:UInt8) ∈ l ∨ (0:UInt8) ∈ l)):nameE l = if b = true then 401 else 0:=by
 rw [nameE,if_neg h0]
 by_cases hb:b = true
 ·rw [if_pos hb,if_pos]
  rcases h.1 hb with (h | h | h) | h | h
  ·exact .inr (.inl h)
  ·exact .inr (.inr (.inl h))
  ·exact .inl h
  ·exact .inr (.inr (.inr (.inl h)))
  ·exact .inr (.inr (.inr (.inr h)))
 ·rw [if_neg hb,if_neg]
  intro h'
  apply hb
  rw [h]
  rcases h' with h | h | h | h | h
  ·exact .inl (.inr (.inr h))
  ·exact .inl (.inl h)
  ·exact .inl (.inr (.inl h))
  ·exact .inr (.inl h)
  ·exact .inr (.inr h)
theorem mem_take_succ (l:List UInt8) (j:Nat) (x:UInt8) (hj:j < l.length):x ∈ l.take (j + 1) ↔ x ∈ l.take j ∨ l[j] = x:=by
 rw [List.take_add_one,List.getElem?_eq_getElem hj,List.mem_append,Option.toList_some,List.mem_singleton,eq_comm (a:=x)]
set_option maxRecDepth 100000 in
set_option maxHeartbeats 1000000 in
theorem rName_any (l:List UInt8) (w:World) (hs:l.length ≤ 9223372036854775806) :
  Calls Tryz.prog 122 #[sv l] w fun e w'=>e = .returned (.int .i64 (nameE l)) ∧ w = w':=by
 have z:=str_size l
 by_cases h0:l = []
 ·subst h0
  go_enter Tryz.func122,Tryz.ntmps122
  go_wp2
  go_ret
  exact ⟨rfl,rfl⟩
 ·have b0:l.isEmpty = false:=by cases l <;> simp_all
  have b0':(l == []) = false:=by rw [beq_eq_false_iff_ne];exact h0
  have HN:=Lib.hid (name_eq l h0)
  obtain ⟨P,hP⟩:∃ P:Prop,P = (l = [46] ∨ l = [46,46] ∨ 16 < l.length):=⟨_,rfl⟩
  rw [← hP] at HN
  have hcs:∃ bb:Bool,(bb = true ↔ P) ∧ (((l == [46]) = true ∧ bb = true) ∨ ((l == [46]) = false ∧ (l == [46,46]) = true ∧ bb = true) ∨ ((l == [46]) = false ∧ (l == [46,46]) = false ∧ decide ((16:Int) < (l.length:Int)) = true ∧ bb = true) ∨ ((l == [46]) = false ∧ (l == [46,46]) = false ∧ decide ((16:Int) < (l.length:Int)) = false ∧ bb = false)):=by
   refine ⟨decide (l = [46] ∨ l = [46,46] ∨ 16 < l.length),by rw [hP,decide_eq_true_iff],?_⟩
   by_cases h1:l = [46]
   ·exact .inl ⟨by simp [h1],by simp [h1]⟩
   ·by_cases h2:l = [46,46]
    ·exact .inr (.inl ⟨by simp [h2],by simp [h2],by simp [h2]⟩)
    ·by_cases h3:16 < l.length
     ·exact .inr (.inr (.inl ⟨by simp [h1],by simp [h2],decide_eq_true (by omega),by simp [h3]⟩))
     ·exact .inr (.inr (.inr ⟨by simp [h1],by simp [h2],decide_eq_false (by omega),by simp [h1,h2];omega⟩))
  obtain ⟨bb,hbb,hcs⟩:=hcs
  have HB:=Lib.hid hbb
  clear hP hbb h0
  rcases hcs with ⟨b1,rfl⟩ | ⟨b1,b2,rfl⟩ | ⟨b1,b2,h3,rfl⟩ | ⟨b1,b2,h3,rfl⟩
  all_goals
   go_enter Tryz.func122,Tryz.ntmps122
   go_wp2_with fail
   go_loopw [3,4] (fun b i wr=>∃ (j:Nat) (bv:Bool),j ≤ l.length ∧ b = .bool bv ∧ i = .int .i64 j ∧ Hid (bv = true ↔ (P ∨ (47:UInt8) ∈ l.take j ∨ (0:UInt8) ∈ l.take j)) ∧ Hid (w = wr)) (fun _ i _=>l.length - (intOf i).toNat)
   case atStart=>exact ⟨0,_,by omega,rfl,rfl,by rw [Hid];simpa using HB.out,rfl⟩
   case round =>
    obtain ⟨j,bv,hj,rfl,rfl,HV,HW⟩:=hrel
    by_cases hlt:j < l.length
    ·have hji:(j:Int) < l.length:=by omega
     have hz:j < (⟨l.toArray⟩:ByteArray).size:=by rw [z];exact hlt
     obtain ⟨x,hx⟩:∃ x:UInt8,(⟨l.toArray⟩:ByteArray)[j]'hz = x:=⟨_,rfl⟩
     have HX:Hid (l[j]'hlt = x):=hx
     have HM47:=Lib.hid (mem_take_succ l j 47 hlt)
     have HM0:=Lib.hid (mem_take_succ l j 0 hlt)
     cases bv with
     | true =>
      have HV2:Hid (true = true ↔ (P ∨ (47:UInt8) ∈ l.take (j + 1) ∨ (0:UInt8) ∈ l.take (j + 1))):=by
       rw [Hid,HM47.out,HM0.out]
       refine ⟨fun _ => ?_,fun _=>rfl⟩
       rcases HV.out.1 rfl with h | h | h
       ·exact .inl h
       ·exact .inr (.inl (.inl h))
       ·exact .inr (.inr (.inl h))
      clear HM47 HM0 HV
      go_wp2_with fail
      go_roundw
      case rel=>exact ⟨j + 1,true,by omega,rfl,by go_num,HV2,HW⟩
      case measure=>simp [intOf];omega
     | false =>
      by_cases e1:x = 47
      ·have HV2:Hid (true = true ↔ (P ∨ (47:UInt8) ∈ l.take (j + 1) ∨ (0:UInt8) ∈ l.take (j + 1))):=by
        rw [Hid,HM47.out,HM0.out]
        exact ⟨fun _=>.inr (.inl (.inr (HX.out.trans e1))),fun _=>rfl⟩
       subst e1
       clear HM47 HM0 HV
       go_wp2_with fail
       go_roundw
       case rel=>exact ⟨j + 1,true,by omega,rfl,by go_num,HV2,HW⟩
       case measure=>simp [intOf];omega
      ·by_cases e2:x = 0
       ·have HV2:Hid (true = true ↔ (P ∨ (47:UInt8) ∈ l.take (j + 1) ∨ (0:UInt8) ∈ l.take (j + 1))):=by
         rw [Hid,HM47.out,HM0.out]
         exact ⟨fun _=>.inr (.inr (.inr (HX.out.trans e2))),fun _=>rfl⟩
        subst e2
        clear HM47 HM0 HV e1
        go_wp2_with fail
        go_roundw
        case rel=>exact ⟨j + 1,true,by omega,rfl,by go_num,HV2,HW⟩
        case measure=>simp [intOf];omega
       ·have HV2:Hid (false = true ↔ (P ∨ (47:UInt8) ∈ l.take (j + 1) ∨ (0:UInt8) ∈ l.take (j + 1))):=by
         rw [Hid,HM47.out,HM0.out,HX.out]
         rw [HV.out]
         refine ⟨fun h => ?_,fun h => ?_⟩
         ·rcases h with h | h | h
          ·exact .inl h
          ·exact .inr (.inl (.inl h))
          ·exact .inr (.inr (.inl h))
         ·rcases h with h | (h | h) | h | h
          ·exact .inl h
          ·exact .inr (.inl h)
          ·exact absurd h e1
          ·exact .inr (.inr h)
          ·exact absurd h e2
        obtain ⟨c,hc⟩:∃ c:Nat,x.toNat = c:=⟨_,rfl⟩
        have n1:c ≠ 47:=fun h=>e1 (UInt8.toNat_inj.1 (hc.trans h))
        have n2:c ≠ 0:=fun h=>e2 (UInt8.toNat_inj.1 (hc.trans h))
        have n3:((c:Int) == 47) = false:=by rw [beq_eq_false_iff_ne];omega
        have n4:((c:Int) == 0) = false:=by rw [beq_eq_false_iff_ne];omega
        clear HM47 HM0 HV e1 e2
        go_wp2_with fail
        go_roundw
        case rel=>exact ⟨j + 1,false,by omega,rfl,by go_num,HV2,HW⟩
        case measure=>simp [intOf];omega
    ·obtain rfl:j = l.length:=by omega
     have hv:=HV.out
     rw [List.take_length] at hv
     have hnm:=HN.out bv hv
     have HNM:=Lib.hid hnm
     clear hv hnm HV
     cases bv with
     | true =>
      go_wp2_with fail
      go_ret
      exact ⟨by rw [HNM.out];rfl,HW.out⟩
     | false =>
      go_wp2_with fail
      go_ret
      exact ⟨by rw [HNM.out];rfl,HW.out⟩
theorem cut_str (l:List UInt8) (f j:Nat):(⟨l.toArray⟩:ByteArray).extract f j = ⟨((l.drop f).take (j - f)).toArray⟩:=by
 apply ByteArray.ext
 rw [ByteArray.data_extract]
 simp [List.extract_eq_take_drop]
theorem cut_more (l:List UInt8) (f j:Nat) (hf:f ≤ j) (hj:j < l.length):(l.drop f).take (j + 1 - f) = (l.drop f).take (j - f) ++ [l[j]]:=by
 have e:j + 1 - f = (j - f) + 1:=by omega
 rw [e,List.take_add_one,List.getElem?_drop,show f + (j - f) = j by omega,List.getElem?_eq_getElem hj]
 rfl
theorem cut_here (l:List UInt8) (f j:Nat) (hf:f ≤ j) (hj:j < l.length) (h47:l[j] = 47) (hn:(47:UInt8) ∉ (l.drop f).take (j - f)):piecesL (l.drop f) = ((l.drop f).take (j - f)) :: piecesL (l.drop (j + 1)):=by
 have e:l.drop f = (l.drop f).take (j - f) ++ 47 :: l.drop (j + 1):=by
  conv=>lhs;rw [← List.take_append_drop (j - f) (l.drop f)]
  rw [List.drop_drop,show f + (j - f) = j by omega,List.drop_eq_getElem_cons hj,h47]
 conv=>lhs;rw [e]
 exact pieces_yes _ _ hn
structure CutI (l:List UInt8) (j f:Nat) (ps:List (List UInt8)):Prop where
 jl:j ≤ l.length
 fj:f ≤ j
 pc:piecesL l = ps ++ piecesL (l.drop f)
 no:(47:UInt8) ∉ (l.drop f).take (j - f)
set_option maxRecDepth 100000 in
set_option maxHeartbeats 1000000 in
theorem rCut_any (l:List UInt8) (w:World) (hl:l.length ≤ 2000000) :
  Calls Tryz.prog 96 #[sv l] w fun e w'=>∃ v,e = .returned v ∧ SRow w' w.heap.size v (piecesL l) ∧ Below w.heap.size w w':=by
 have z:=str_size l
 have HBD:=Lib.hid (pieces_bd l)
 go_enter Tryz.func96,Tryz.ntmps96
 go_wp2_with fail
 go_loopw [3,4,5] (fun o fr i wr=>∃ (j f:Nat) (ps:List (List UInt8)) (a:Option Addr) (n c:Nat),j ≤ l.length + 1 ∧ i = .int .i64 j ∧ fr = .int .i64 f ∧ o = .slice a n c ∧ Hid (CutI l j f ps ∨ (j = l.length + 1 ∧ ps = piecesL l)) ∧ Hid (SRow wr w.heap.size (.slice a n c) ps ∧ Below w.heap.size w wr)) (fun _ _ i _=>l.length + 1 - (intOf i).toNat)
 case atStart=>exact ⟨0,0,[],none,0,0,by omega,rfl,rfl,rfl,.inl ⟨by omega,by omega,by simp,by simp⟩,World.ownsRow_nil _ _ _ _,Below.refl _ _⟩
 case round =>
  obtain ⟨j,f,ps,a,n,c,hj,rfl,rfl,rfl,HC,HR⟩:=hrel
  by_cases hlt:j ≤ l.length
  ·have hci:CutI l j f ps:=HC.out.resolve_right (fun h=>by omega)
   have hps:ps.length ≤ 2000000:=by
    have h1:=HBD.out.1
    have h2:=congrArg List.length hci.pc
    have h3:0 < (piecesL (l.drop f)).length:=List.length_pos_iff.2 (piecesL_ne _)
    rw [List.length_append] at h2
    omega
   have hfj:=hci.fj
   obtain ⟨seg,hseg⟩:∃ seg,seg = (l.drop f).take (j - f):=⟨_,rfl⟩
   have hex:(⟨l.toArray⟩:ByteArray).extract f j = ⟨seg.toArray⟩:=by rw [cut_str,hseg]
   have hzj:j ≤ (⟨l.toArray⟩:ByteArray).size:=by rw [z];exact hlt
   have hsn:n = ps.length:=(SRow.drop HR.out.1).1
   obtain ⟨g0,cp,w',hrun,hown,hgr,hlies⟩:=append_s (wr.alloc (.cells #[sv seg] 9)) w.heap.size (.slice a n c) ps.length _ (World.ownsRow.alloc HR.out.1 _) ⟨wr.heap.size,0,none⟩ 1 1 [sv seg] rfl (fun k u hu=>by rw [add0,blk_cell (blk_new wr _)];simpa using hu) (by simp [Value.oneCell']) (by decide) (by omega) (by have:=HR.out.2.size;simp;omega)
   have HRUN:=Lib.hid hrun
   have HNEW:Hid (SRow w' w.heap.size (.slice (some ⟨g0,0,none⟩) (ps.length + 1) cp) (ps ++ [seg]) ∧ Below w.heap.size w w'):=by
    refine ⟨by unfold SRow;rw [List.length_append,List.map_append];exact hown,?_⟩
    have hlt:=World.ownsRow.lt HR.out.1
    have hb:=HR.out.2
    refine ⟨hgr.os.trans hb.os,hgr.tape.trans hb.tape,hgr.output.trans hb.output,by have h1:=hgr.size;have h2:=hb.size;simp at h1;omega,fun b hb' => ?_⟩
    have hbs:=hb.size
    rw [hgr.block b (by simp;omega) (fun e=>by have:=(hlt b e.symm).1;omega),Below.heap_alloc _ _ _ (by omega)]
    exact hb.block b hb'
   have HCI:=Lib.hid hci
   have HSEG:=Lib.hid hseg
   clear hci hrun hown hgr hlies hseg HC
   by_cases hend:j = l.length
   ·subst hend
    have hi2:((l.length:Int) == (l.length:Int)) = true:=by simp
    have HFIN:Hid (ps ++ [seg] = piecesL l):=by
     have h1:=HCI.out.no
     have e:(l.drop f).take (l.length - f) = l.drop f:=by rw [List.take_of_length_le];simp
     rw [e] at h1
     rw [Hid,HCI.out.pc,pieces_no _ h1,HSEG.out,e]
    go_wp2_with (at_builtin;refine reg.wpList_append rfl rfl rfl rfl rfl HRUN.out ?_)
    go_roundw
    case rel=>exact ⟨l.length + 1,l.length + 1,ps ++ [seg],_,_,_,by omega,by go_num,by go_num,rfl,.inr ⟨rfl,HFIN.out⟩,HNEW⟩
    case measure=>simp [intOf]
   ·have hjl:j < l.length:=by omega
    have hji:((j:Int) == (l.length:Int)) = false:=by rw [beq_eq_false_iff_ne];omega
    have hz:j < (⟨l.toArray⟩:ByteArray).size:=by rw [z];exact hjl
    obtain ⟨x,hx⟩:∃ x:UInt8,(⟨l.toArray⟩:ByteArray)[j]'hz = x:=⟨_,rfl⟩
    have HX:Hid (l[j]'hjl = x):=hx
    by_cases e1:x = 47
    ·have HCN:Hid (CutI l (j + 1) (j + 1) (ps ++ [seg])):=by
      refine ⟨by omega,by omega,?_,by simp⟩
      rw [HCI.out.pc,cut_here l f j hfj hjl (HX.out.trans e1) HCI.out.no,HSEG.out]
      simp
     subst e1
     go_wp2_with (at_builtin;refine reg.wpList_append rfl rfl rfl rfl rfl HRUN.out ?_)
     go_roundw
     case rel=>exact ⟨j + 1,j + 1,ps ++ [seg],_,_,_,by omega,by go_num,by go_num,rfl,.inl HCN.out,HNEW⟩
     case measure=>simp [intOf];omega
    ·have HCN:Hid (CutI l (j + 1) f ps):=by
      refine ⟨by omega,by omega,HCI.out.pc,?_⟩
      rw [cut_more l f j hfj hjl,HX.out]
      intro hm
      rcases List.mem_append.1 hm with h | h
      ·exact HCI.out.no h
      ·exact e1 (List.mem_singleton.1 h).symm
     obtain ⟨cc,hc⟩:∃ c:Nat,x.toNat = c:=⟨_,rfl⟩
     have n1:cc ≠ 47:=fun h=>e1 (UInt8.toNat_inj.1 (hc.trans h))
     have n3:((cc:Int) == 47) = false:=by rw [beq_eq_false_iff_ne];omega
     clear e1
     go_wp2_with fail
     go_roundw
     case rel=>exact ⟨j + 1,f,ps,_,_,_,by omega,by go_num,rfl,rfl,.inl HCN.out,HR⟩
     case measure=>simp [intOf];omega
  ·obtain rfl:j = l.length + 1:=by omega
   have hps:ps = piecesL l:=by
    rcases HC.out with h | h
    ·have:=h.jl;omega
    ·exact h.2
   subst hps
   go_wp2_with fail
   go_ret
   exact ⟨_,rfl,HR.out.1,HR.out.2⟩
set_option maxRecDepth 100000 in
theorem rParts_any (l:List UInt8) (w:World) (hl:l.length ≤ 2000000) :
  Calls Tryz.prog 63 #[sv l] w fun e w'=>∃ v,e = .returned v ∧ SRow w' w.heap.size v (partsL l) ∧ Below w.heap.size w w':=by
 by_cases h0:l = []
 ·subst h0
  go_enter Tryz.func63,Tryz.ntmps63
  go_wp2
  go_ret
  exact ⟨_,rfl,World.ownsRow_nil _ _ _ _,Below.refl _ _⟩
 ·have b0:l.isEmpty = false:=by cases l <;> simp_all
  have b0':(l == []) = false:=by rw [beq_eq_false_iff_ne];exact h0
  have HC:=Lib.hid (fun W:World=>rCut_any l W hl)
  have HP:Hid (partsL l = piecesL l):=by rw [Hid,partsL,if_neg h0]
  clear h0
  go_enter Tryz.func63,Tryz.ntmps63
  go_wp2_with fail
  (with_reducible refine (HC.out _).mono ?_);rintro e w1 ⟨v,rfl,hr,hb⟩
  have HR:=Lib.hid hr
  have HB:=Lib.hid hb
  clear hr hb
  go_wp2_with fail
  go_ret
  exact ⟨_,rfl,by rw [HP.out];exact HR.out,HB.out⟩
theorem SRow.set {w:World} {base g n c:Nat} {ys:List (List UInt8)} (h:SRow w base (.slice (some ⟨g,0,none⟩) n c) ys) (j:Nat) (q:List UInt8):SRow (w.setCell ⟨g,j,none⟩ (sv q)) base (.slice (some ⟨g,0,none⟩) n c) (ys.set j q):=by
 obtain ⟨hl,⟨h1,h2⟩ | ⟨g',c',cur,hv,h2,h3,h4,h5,h6,h7⟩⟩:=h
 ·cases h1
 ·simp only [Value.slice.injEq,Option.some.injEq,Addr.mk.injEq] at hv
  obtain ⟨⟨rfl,-,-⟩,rfl,rfl⟩:=hv
  refine ⟨by simp,.inr ⟨g,c,cur.setIfInBounds j (sv q),by simp,h2,blk_set h3 j _,by simpa using h4,h5,by simpa using h6,?_⟩⟩
  rw [List.length_set,Array.toList_setIfInBounds,List.take_set,h7,List.map_set]
end Go.Proofs.YtifhnpkapgaboaaGreat.path
namespace Go.Proofs.YtifhnpkapgaboaaGreat.doc
open Go Go.RowKit
open heap
open path (sv str_size SRow own_kept own_base add0)
abbrev pV (b:Nat):Value:=.pointer (some ⟨b,0,none⟩)
def bO (id kind mode:Int) (data:Nm) (nv kv up:Value):Obj:=.cells #[.int .i64 id,.int .i64 kind,.int .i64 mode,sv data,nv,kv,up] 62 (0,0)
def KRow (w:World) (base:Nat) (v:Value) (ks:List Nat):Prop:=w.ownsRow base 55 1 v ks.length (ks.map pV)
structure NodeAt (w:World) (base:Nat) (x:BN):Prop where
 blk:∃ id up,w.heap[x.b]? = some (bO id x.kind x.mode x.data x.nv x.kv up)
 own:base ≤ x.b
 ns:SRow w base x.nv x.names
 ks:KRow w base x.kv x.kids
def blks (x:BN):List Nat:=x.b :: (x.nv.ownBlock.toList ++ x.kv.ownBlock.toList)
theorem mem_blks {x:BN} {g:Nat}:g ∈ blks x ↔ g = x.b ∨ x.nv.ownBlock = some g ∨ x.kv.ownBlock = some g:=by
 unfold blks
 simp [Option.mem_toList]
theorem KRow.kept {w w':World} {base:Nat} {v:Value} {ks:List Nat} (h:KRow w base v ks) (hk:∀ g o,v.ownBlock = some g → w.heap[g]? = some o → o.isCells = true → w'.heap[g]? = some o):KRow w' base v ks:=by
 obtain ⟨hl,h1 | ⟨g,c,cur,rfl,h2,h3,h4⟩⟩:=h
 ·exact ⟨hl,.inl h1⟩
 ·exact ⟨hl,.inr ⟨g,c,cur,rfl,h2,hk g _ rfl h3 rfl,h4⟩⟩
theorem KRow.turned {w w':World} {base:Nat} {v:Value} {ks:List Nat} {S:List Nat} (h:KRow w base v ks) (ht:Turned S w w') (hS:∀ g,v.ownBlock = some g → g ∉ S):KRow w' base v ks:=h.kept fun g o hg ho _=>ht.kept ho (hS g hg)
theorem KRow.lt {w:World} {base:Nat} {v:Value} {ks:List Nat} (h:KRow w base v ks) {g:Nat} (hg:v.ownBlock = some g):base ≤ g ∧ g < w.heap.size:=World.ownsRow.lt h g hg
theorem NodeAt.lt {w:World} {base:Nat} {x:BN} (h:NodeAt w base x) {g:Nat} (hg:g ∈ blks x):base ≤ g ∧ g < w.heap.size:=by
 rcases mem_blks.1 hg with e | e | e
 ·obtain ⟨id,up,hb⟩:=h.blk
  rw [e];exact ⟨h.own,blk_lt hb⟩
 ·exact World.ownsRow.lt h.ns g e
 ·exact h.ks.lt e
theorem NodeAt.turned {w w':World} {base:Nat} {x:BN} {S:List Nat} (h:NodeAt w base x) (ht:Turned S w w') (hS:∀ g ∈ blks x,g ∉ S):NodeAt w' base x:=by
 obtain ⟨id,up,hb⟩:=h.blk
 exact ⟨⟨id,up,ht.kept hb (hS _ (mem_blks.2 (.inl rfl)))⟩,h.own,h.ns.turned ht fun g hg=>hS g (mem_blks.2 (.inr (.inl hg))),h.ks.turned ht fun g hg=>hS g (mem_blks.2 (.inr (.inr hg)))⟩
structure TreeP (w:World) (base t:Nat) (M:DM):Prop where
 tb:∃ r rest c f l i m nx bs,M = r :: rest ∧ w.heap[t]? = some (.cells #[pV r.b,c,f,l,i,m,.int .i64 nx,bs] 78 (0,0))
 own:base ≤ t
 wf:WF M
 node:∀ x ∈ M,NodeAt w base x
 one:∀ x ∈ M,(blks x).Nodup ∧ t ∉ blks x
 two:∀ x ∈ M,∀ y ∈ M,x.ps ≠ y.ps → ∀ g ∈ blks x,g ∉ blks y
def allB (t:Nat) (M:DM):List Nat:=t :: M.flatMap blks
theorem mem_allB {t g:Nat} {M:DM}:g ∈ allB t M ↔ g = t ∨ ∃ x ∈ M,g ∈ blks x:=by unfold allB;simp
theorem TreeP.lt {w:World} {base t:Nat} {M:DM} (h:TreeP w base t M) {g:Nat} (hg:g ∈ allB t M):base ≤ g ∧ g < w.heap.size:=by
 rcases mem_allB.1 hg with rfl | ⟨x,hx,hgx⟩
 ·obtain ⟨_,_,_,_,_,_,_,_,_,_,hb⟩:=h.tb
  exact ⟨h.own,blk_lt hb⟩
 ·exact (h.node x hx).lt hgx
theorem TreeP.turned {w w':World} {base t:Nat} {M:DM} {S:List Nat} (h:TreeP w base t M) (ht:Turned S w w') (hS:∀ g ∈ allB t M,g ∉ S):TreeP w' base t M:=by
 obtain ⟨r,rest,c,f,l,i,m,nx,bs,hM,hb⟩:=h.tb
 exact ⟨⟨r,rest,c,f,l,i,m,nx,bs,hM,ht.kept hb (hS _ (mem_allB.2 (.inl rfl)))⟩,h.own,h.wf,fun x hx=>(h.node x hx).turned ht fun g hg=>hS g (mem_allB.2 (.inr ⟨x,hx,hg⟩)),h.one,h.two⟩
theorem TreeP.below {w w':World} {base t:Nat} {M:DM} (h:TreeP w base t M) (hb:Below w.heap.size w w'):TreeP w' base t M:=h.turned (Turned.of_below (S := []) hb) (by simp)
theorem TreeP.edit {w w':World} {base t:Nat} {M M':DM} {S:List Nat} (h:TreeP w base t M) (ht:Turned S w w') (hwf:WF M')
  (htb:∃ r rest c f l i m nx bs,M' = r :: rest ∧ w'.heap[t]? = some (.cells #[pV r.b,c,f,l,i,m,.int .i64 nx,bs] 78 (0,0)))
  (hn:∀ x ∈ M',(x ∈ M ∧ ∀ g ∈ blks x,g ∉ S) ∨ (NodeAt w' base x ∧ (blks x).Nodup ∧ (∀ g ∈ blks x,w.heap.size ≤ g ∨ ∃ y ∈ M,y.ps = x.ps ∧ g ∈ blks y)))
  (hd:∀ x ∈ M',∀ y ∈ M',x.ps ≠ y.ps → ∀ g ∈ blks x,g ∈ blks y → g < w.heap.size):TreeP w' base t M':=by
 have htl:t < w.heap.size:=(h.lt (mem_allB.2 (.inl rfl))).2
 refine ⟨htb,h.own,hwf,fun x hx => ?_,fun x hx => ?_,fun x hx y hy hne g hgx hgy => ?_⟩
 ·rcases hn x hx with ⟨hxM,hS⟩ | ⟨h1,-⟩
  ·exact (h.node x hxM).turned ht hS
  ·exact h1
 ·rcases hn x hx with ⟨hxM,hS⟩ | ⟨h1,h2,h3⟩
  ·exact h.one x hxM
  ·refine ⟨h2,fun hm => ?_⟩
   rcases h3 t hm with e | ⟨y,hy,-,hg⟩
   ·omega
   ·exact (h.one y hy).2 hg
 ·have hlt:=hd x hx y hy hne g hgx hgy
  have old:∀ z ∈ M',g ∈ blks z → ∃ u ∈ M,u.ps = z.ps ∧ g ∈ blks u:=fun z hz hg=>by
   rcases hn z hz with ⟨hzM,-⟩ | ⟨-,-,h3⟩
   ·exact ⟨z,hzM,rfl,hg⟩
   ·rcases h3 g hg with e | e
    ·omega
    ·exact e
  obtain ⟨u,hu,hue,hug⟩:=old x hx hgx
  obtain ⟨v,hv,hve,hvg⟩:=old y hy hgy
  exact h.two u hu v hv (by rw [hue,hve];exact hne) g hug hvg
end Go.Proofs.YtifhnpkapgaboaaGreat.doc
namespace Go.Proofs.YtifhnpkapgaboaaGreat.doc
open Go Go.RowKit
open heap
open path (sv str_size SRow own_kept own_base add0)
set_option maxRecDepth 100000
theorem KRow.cells {w:World} {base:Nat} {v:Value} {ks:List Nat} (h:KRow w base v ks):(v = .slice none 0 0 ∧ ks = []) ∨ ∃ g c,v = .slice (some ⟨g,0,none⟩) ks.length c ∧ g < w.heap.size ∧ ks.length ≤ c ∧ c ≤ maxLen ∧ ∀ j k,ks[j]? = some k → w.cell? ⟨g,j,none⟩ = some (pV k):=by
 have hlt:=World.ownsRow.lt h
 have hcl := @World.ownsRow.cells _ _ _ _ _ _ _ h
 obtain ⟨hl,⟨h1,h2⟩ | ⟨g,c,cur,hv,h2,h3,h4,h5,h6,h7⟩⟩:=h
 ·exact .inl ⟨h1,List.length_eq_zero_iff.1 h2⟩
 ·refine .inr ⟨g,c,hv,(hlt g (by rw [hv];rfl)).2,h4,h5,fun j q hq => ?_⟩
  have:=hcl (g:=g) (by rw [hv];rfl) j (pV q) (by simp [hq])
  rwa [add0] at this
def kidR (x:BN) (n:Nm) (e:Ending):Prop:=(∃ c,x.names[kidIx x.names n]? = some n ∧ x.kids[kidIx x.names n]? = some c ∧ e = .returned (.tuple #[pV c,.int .i64 (kidIx x.names n)])) ∨ (x.names[kidIx x.names n]? ≠ some n ∧ e = .returned (.tuple #[.pointer none,.int .i64 (kidIx x.names n)]))
set_option maxHeartbeats 1000000 in
theorem kid_any (base:Nat) (x:BN) (n:Nm) (w:World) (h:NodeAt w base x) (hlen:x.names.length = x.kids.length) (hsz:x.names.length ≤ 1000000000) :
  Calls Tryz.prog 64 #[pV x.b,sv n] w fun e w'=>kidR x n e ∧ w = w':=by
 obtain ⟨id,up,hb⟩:=h.blk
 have c4:w.cell? ⟨x.b,4,none⟩ = some x.nv:=by rw [blk_cell hb];rfl
 have c5:w.cell? ⟨x.b,5,none⟩ = some x.kv:=by rw [blk_cell hb];rfl
 have hkl:=kidIx_le x.names n
 have HLO:=Lib.hid (fun j y hj hy=>kidIx_low x.names n j y hj hy)
 have HAT:=Lib.hid (fun y hy=>kidIx_at x.names n y hy)
 have HN:=Lib.hid (path.SRow.cells h.ns)
 have HK:=Lib.hid h.ks.cells
 obtain ⟨a4,n4,e4⟩:∃ a c,x.nv = .slice a x.names.length c:=by
  rcases HN.out with ⟨e1,e2⟩ | ⟨g,c,e1,-⟩
  ·exact ⟨none,0,by rw [e1,e2];rfl⟩
  ·exact ⟨_,_,e1⟩
 obtain ⟨a5,n5,e5⟩:∃ a c,x.kv = .slice a x.kids.length c:=by
  rcases HK.out with ⟨e1,e2⟩ | ⟨g,c,e1,-⟩
  ·exact ⟨none,0,by rw [e1,e2];rfl⟩
  ·exact ⟨_,_,e1⟩
 rw [e4] at c4 HN
 rw [e5] at c5 HK
 clear h hb e4 e5
 unfold kidR
 generalize kidIx x.names n = m at *
 generalize hns:x.names = ns at *
 generalize hks:x.kids = ks at *
 generalize x.b = b at *
 clear hns hks
 go_enter Tryz.func64,Tryz.ntmps64
 go_wp2_with fail
 go_loopg [6] m (fun kk v6 wr=>∃ i:Nat,i + kk = m ∧ v6 = .int .i64 i ∧ w = wr)
 case atStart=>exact ⟨0,by omega,rfl,rfl⟩
 case round =>
  obtain ⟨i,hik,rfl,rfl⟩:=hrel
  by_cases hlt:i < ns.length
  ·rcases HN.out with ⟨-,h0⟩ | ⟨g,c,e1,hg,hc1,hc2,hcl⟩
   ·rw [h0] at hlt;exact absurd hlt (by simp)
   simp only [Value.slice.injEq] at e1
   obtain ⟨rfl,-,rfl⟩:=e1
   obtain ⟨y,hy⟩:∃ y,ns[i]? = some y:=⟨_,List.getElem?_eq_getElem hlt⟩
   have x0:=hcl i y hy
   unfold maxLen at hc2
   have hii:(i:Int) < (ns.length:Int):=by omega
   clear hcl
   cases gk with
   | zero =>
    obtain rfl:i = m:=by omega
    have hb:Op.bytesLess y n = false:=HAT.out y hy
    by_cases he:y = n
    ·have h2:(y == n) = true:=by rw [beq_iff_eq];exact he
     rcases HK.out with ⟨-,h0⟩ | ⟨g5,c5',e5,hg5,hd1,hd2,hkc⟩
     ·rw [hlen,h0] at hlt;exact absurd hlt (by simp)
     simp only [Value.slice.injEq] at e5
     obtain ⟨rfl,-,rfl⟩:=e5
     obtain ⟨q,hq⟩:∃ q,ks[i]? = some q:=⟨_,List.getElem?_eq_getElem (by omega)⟩
     have x1:=hkc i q hq
     unfold maxLen at hd2
     have hik2:(i:Int) < (ks.length:Int):=by omega
     have HR:Hid (ns[i]? = some n ∧ ks[i]? = some q):=⟨by rw [hy,he],hq⟩
     clear he hkc hy hq HN HK HLO HAT
     go_wp2_with fail
     go_ret2
     exact ⟨.inl ⟨_,HR.out.1,HR.out.2,rfl⟩,rfl⟩
    ·have h2:(y == n) = false:=by rw [beq_eq_false_iff_ne];exact he
     have HR:Hid (ns[i]? ≠ some n):=by rw [Hid,hy];exact fun e=>he (Option.some.inj e)
     clear he hy HN HK HLO HAT
     go_wp2_with fail
     go_ret2
     exact ⟨.inr ⟨HR.out,rfl⟩,rfl⟩
   | succ gk =>
    have hb:Op.bytesLess y n = true:=HLO.out i y (by omega) hy
    clear hy
    go_wp2_with fail
    go_roundg gk
    case rel=>exact ⟨i + 1,by omega,by go_num,rfl⟩
    case measure=>omega
  ·obtain rfl:i = m:=by omega
   have him:i = ns.length:=by omega
   have d1:decide ((i:Int) < (ns.length:Int)) = false:=decide_eq_false (by omega)
   have HR:Hid (ns[i]? ≠ some n):=by rw [Hid,List.getElem?_eq_none (by omega)];exact fun e=>by cases e
   clear HN HK HLO HAT
   go_wp2_with fail
   go_ret2
   exact ⟨.inr ⟨HR.out,rfl⟩,rfl⟩
theorem numbered_any (t:Nat) (z:BN) (base:Nat) (r:Nat) (c f l i m bs:Value) (nx:Int) (w:World) (ht:w.heap[t]? = some (.cells #[pV r,c,f,l,i,m,.int .i64 nx,bs] 78 (0,0))) (id:Int) (up:Value) (hb:w.heap[z.b]? = some (bO id z.kind z.mode z.data z.nv z.kv up)) (hne:z.b ≠ t) :
  Calls Tryz.prog 62 #[pV t,pV z.b] w fun e w'=>e = .returned (pV z.b) ∧ (∃ nx',w'.heap[t]? = some (.cells #[pV r,c,f,l,i,m,.int .i64 nx',bs] 78 (0,0))) ∧ (∃ id',w'.heap[z.b]? = some (bO id' z.kind z.mode z.data z.nv z.kv up)) ∧ Turned [t,z.b] w w':=by
 have c6:w.cell? ⟨t,6,none⟩ = some (.int .i64 nx):=by rw [blk_cell ht];rfl
 have f6:w.frozen? ⟨t,6,none⟩ = false:=blk_free ht 6
 have c0:w.cell? ⟨z.b,0,none⟩ = some (.int .i64 id):=by rw [blk_cell hb];rfl
 have f0:w.frozen? ⟨z.b,0,none⟩ = false:=blk_free hb 0
 obtain ⟨q,hq⟩:∃ q:Int,wrap64 (nx + 1) = q:=⟨_,rfl⟩
 have HE:Hid ((∃ nx',((w.setCell ⟨t,6,none⟩ (.int .i64 q)).setCell ⟨z.b,0,none⟩ (.int .i64 q)).heap[t]? = some (.cells #[pV r,c,f,l,i,m,.int .i64 nx',bs] 78 (0,0))) ∧ (∃ id',((w.setCell ⟨t,6,none⟩ (.int .i64 q)).setCell ⟨z.b,0,none⟩ (.int .i64 q)).heap[z.b]? = some (bO id' z.kind z.mode z.data z.nv z.kv up)) ∧ Turned [t,z.b] w ((w.setCell ⟨t,6,none⟩ (.int .i64 q)).setCell ⟨z.b,0,none⟩ (.int .i64 q))):=by
  refine ⟨⟨q,?_⟩,⟨q,?_⟩,((Turned.refl _ _).setCell (by simp) _).setCell (by simp) _⟩
  ·rw [blk_other (Ne.symm hne)]
   exact blk_set ht 6 _
  ·exact blk_set ((blk_other hne _ _).trans hb) 0 _
 clear ht hb
 go_enter Tryz.func62,Tryz.ntmps62
 go_wp2_with fail
 go_ret
 exact ⟨rfl,HE.out⟩
end Go.Proofs.YtifhnpkapgaboaaGreat.doc
