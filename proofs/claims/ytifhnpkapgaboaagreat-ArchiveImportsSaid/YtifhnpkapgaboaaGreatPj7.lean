/-
  Proved: plain facts on clean paths: a way of good names joined and cut again; what Clean gives is clean and stays so. No program is in sight.
  Proved: what the document's own Name, Join, Below give; that SameTexts says true of equal rows. Conditions: as each theorem says.
  Proved: what the document's own Cut and Parts give; SameTexts, SpoilTexts. Conditions: as each theorem says.
-/
import Derived.Test.YtifhnpkapgaboaaGreatPj6
import Derived.Test.YtifhnpkapgaboaaGreatPj1
set_option linter.unusedVariables false
set_option linter.unusedSimpArgs false
namespace Go.Proofs.YtifhnpkapgaboaaGreat.path
theorem good_no {p:List UInt8} (h:nameE p = 0):p ≠ [] ∧ (47:UInt8) ∉ p ∧ p ≠ [46] ∧ p ≠ [46,46] ∧ p.length ≤ 16:=by
 unfold nameE at h
 split at h
 ·cases h
 ·rename_i h0
  split at h
  ·cases h
  ·rename_i h1
   refine ⟨h0,fun e=>h1 (.inr (.inr (.inr (.inl e)))),fun e=>h1 (.inr (.inl e)),fun e=>h1 (.inr (.inr (.inl e))),?_⟩
   rcases Nat.lt_or_ge 16 p.length with e | e
   ·exact absurd (.inl e) h1
   ·exact e
theorem joinL_cons (p q:List UInt8) (ws:List (List UInt8)):joinL (p :: q :: ws) = p ++ 47 :: joinL (q :: ws):=by
 simp [joinL,List.intercalate,List.intersperse]
theorem joinL_one (p:List UInt8):joinL [p] = p:=by simp [joinL,List.intercalate]
theorem joinL_nil:joinL [] = []:=by simp [joinL,List.intercalate]
theorem joinL_snoc (ws:List (List UInt8)) (p:List UInt8) (h:ws ≠ []):joinL (ws ++ [p]) = joinL ws ++ 47 :: p:=by
 induction ws with
 | nil=>exact absurd rfl h
 | cons q qs ih =>
  cases qs with
  | nil=>rw [List.cons_append,List.nil_append,joinL_cons,joinL_one,joinL_one]
  | cons r rs=>rw [List.cons_append,List.cons_append,joinL_cons,← List.cons_append,ih (by simp),joinL_cons,List.append_assoc,List.cons_append]
theorem joinL_ne {ws:List (List UInt8)} (hg:∀ p ∈ ws,nameE p = 0) (h:ws ≠ []):joinL ws ≠ []:=by
 cases ws with
 | nil=>exact absurd rfl h
 | cons p ps =>
  have:=(good_no (hg p (List.mem_cons_self ..))).1
  cases ps with
  | nil=>rw [joinL_one];exact this
  | cons q qs=>rw [joinL_cons];simp [this]
theorem pieces_join (ws:List (List UInt8)) (hg:∀ p ∈ ws,nameE p = 0) (h:ws ≠ []):piecesL (joinL ws) = ws:=by
 induction ws with
 | nil=>exact absurd rfl h
 | cons p ps ih =>
  have hp:=(good_no (hg p (List.mem_cons_self ..))).2.1
  cases ps with
  | nil=>rw [joinL_one,pieces_no p hp]
  | cons q qs=>rw [joinL_cons,pieces_yes _ _ hp,ih (fun r hr=>hg r (List.mem_cons_of_mem _ hr)) (by simp)]
theorem parts_join (ws:List (List UInt8)) (hg:∀ p ∈ ws,nameE p = 0):partsL (joinL ws) = ws:=by
 by_cases h:ws = []
 ·subst h;simp [partsL,joinL_nil]
 ·rw [partsL,if_neg (joinL_ne hg h),pieces_join ws hg h]
theorem clean_join (ws:List (List UInt8)) (hg:∀ p ∈ ws,nameE p = 0) (h8:ws.length ≤ 8) (h140:(joinL ws).length ≤ 140):cleanB (joinL ws) = true:=by
 by_cases h:ws = []
 ·subst h;simp [cleanB,joinL_nil]
 ·unfold cleanB
  rw [pieces_join ws hg h,decide_eq_true hg,decide_eq_true h8,decide_eq_true h140]
  simp
theorem wayW_good (st ps ws:List (List UInt8)) (h:wayW st ps = some ws) (hst:∀ p ∈ st,nameE p = 0):∀ p ∈ ws,nameE p = 0:=by
 induction ps generalizing st with
 | nil=>simp [wayW] at h;subst h;exact hst
 | cons p ps ih =>
  simp only [wayW] at h
  split at h
  ·cases h
  ·rename_i v hv
   refine ih v h ?_
   unfold stepW at hv
   split at hv
   ·cases hv;exact hst
   ·split at hv
    ·cases hv;exact fun q hq=>hst q ((List.dropLast_sublist _).subset hq)
    ·split at hv
     ·cases hv
     ·rename_i hn
      cases hv
      intro q hq
      rcases List.mem_append.1 hq with hq | hq
      ·exact hst q hq
      ·rw [List.mem_singleton] at hq;rw [hq];exact Classical.not_not.1 hn
theorem start_good (cwd s:List UInt8) (h:cleanB cwd = true):∀ p ∈ startW cwd s,nameE p = 0:=by
 unfold startW
 split
 ·intro p hp;cases hp
 ·unfold partsL
  split
  ·intro p hp;cases hp
  ·rename_i hne
   simp only [cleanB,Bool.or_eq_true,decide_eq_true_eq,Bool.and_eq_true] at h
   exact (h.resolve_left hne).1.1
theorem clean_ok (cwd s:List UInt8) (h:(cleanR cwd s).2 = 0):cleanB cwd = true ∧ s ≠ [] ∧ s.length ≤ 560 ∧ ∃ ws,wayW (startW cwd s) (piecesL s) = some ws ∧ (cleanR cwd s).1 = joinL ws ∧ ws.length ≤ 8 ∧ (joinL ws).length ≤ 140 ∧ ∀ p ∈ ws,nameE p = 0:=by
 unfold cleanR at h ⊢
 split at h
 ·cases h
 ·rename_i h1
  split at h
  ·cases h
  ·rename_i h2
   split at h
   ·cases h
   ·rename_i h3
    have hc:cleanB cwd = true:=by simpa using h1
    refine ⟨hc,h2,by omega,?_⟩
    rw [if_neg h1,if_neg h2,if_neg h3]
    split at h
    ·cases h
    ·rename_i ws hw
     split at h
     ·cases h
     ·rename_i h4
      split at h
      ·cases h
      ·rename_i h5
       rw [hw]
       exact ⟨ws,rfl,by simp [h4,h5],by omega,by omega,wayW_good _ _ _ hw (start_good cwd s hc)⟩
theorem clean_mk (cwd s:List UInt8) (ws:List (List UInt8)) (h1:cleanB cwd = true) (h2:s ≠ []) (h3:s.length ≤ 560) (h4:wayW (startW cwd s) (piecesL s) = some ws) (h5:ws.length ≤ 8) (h6:(joinL ws).length ≤ 140):cleanR cwd s = (joinL ws,0):=by
 unfold cleanR
 rw [h1,if_neg (by simp),if_neg h2,if_neg (by omega),h4]
 simp only
 rw [if_neg (by omega),if_neg (by omega)]
theorem way_join (ws vs:List (List UInt8)) (hg:∀ p ∈ ws,nameE p = 0):wayW vs ws = some (vs ++ ws):=by
 induction ws generalizing vs with
 | nil=>simp [wayW]
 | cons p ps ih =>
  have hp:=good_no (hg p (List.mem_cons_self ..))
  have:stepW vs p = some (vs ++ [p]):=by
   unfold stepW
   rw [if_neg (fun h=>h.elim hp.1 hp.2.2.1),if_neg hp.2.2.2.1,if_neg (by simp [hg p (List.mem_cons_self ..)])]
  simp only [wayW,this]
  rw [ih _ (fun q hq=>hg q (List.mem_cons_of_mem _ hq))]
  simp
theorem clean_root (cwd:List UInt8) (ws:List (List UInt8)) (h1:cleanB cwd = true) (hg:∀ p ∈ ws,nameE p = 0) (h5:ws.length ≤ 8) (h6:(joinL ws).length ≤ 140):cleanR cwd (47 :: joinL ws) = (joinL ws,0):=by
 refine clean_mk cwd _ ws h1 (by simp) (by simp;omega) ?_ h5 h6
 have e:piecesL (47 :: joinL ws) = [] :: piecesL (joinL ws):=by rw [piecesL,if_pos rfl]
 have es:startW cwd (47 :: joinL ws) = []:=by simp [startW]
 have st:∀ v,stepW v [] = some v:=fun v=>by simp [stepW]
 rw [e,es]
 simp only [wayW,st]
 by_cases h:ws = []
 ·subst h;rw [joinL_nil];simp [piecesL,wayW,st]
 ·rw [pieces_join ws hg h,way_join ws [] hg,List.nil_append]
theorem pieces_snoc (l q:List UInt8) (hq:(47:UInt8) ∉ q):piecesL (l ++ 47 :: q) = piecesL l ++ [q]:=by
 rcases cut_at l with h | ⟨a,b,rfl,h⟩
 ·rw [pieces_yes l q h,pieces_no l h,pieces_no q hq];rfl
 ·have hb:b.length < (a ++ 47 :: b).length:=by simp;omega
  rw [List.append_assoc,List.cons_append,pieces_yes _ _ h,pieces_yes _ _ h,pieces_snoc b q hq,List.cons_append]
termination_by l.length
end Go.Proofs.YtifhnpkapgaboaaGreat.path
namespace Go.Proofs.YtifhnpkapgaboaaGreat.path
open Go.RowKit Go.Shelf
open heap
theorem name_eq (l:List UInt8) (h0:l ≠ []) (b:Bool) (h:b = true ↔ ((l = [46] ∨ l = [46,46] ∨ 16 < l.length) ∨ (47:UInt8) ∈ l ∨ (0:UInt8) ∈ l)):nameE l = if b = true then 401 else 0:=by
 rw [nameE,if_neg h0]
 by_cases hb:b = true
 ·rw [if_pos hb,if_pos]
  rcases h.1 hb with (h | h | h) | h | h
  ·exact .inr (.inl h)
  ·exact .inr (.inr (.inl h))
  ·exact .inl h
  ·exact .inr (.inr (.inr (.inl h)))
  ·exact .inr (.inr (.inr (.inr h)))
 ·rw [if_neg hb,if_neg]
  intro h'
  apply hb
  rw [h]
  rcases h' with h | h | h | h | h
  ·exact .inl (.inr (.inr h))
  ·exact .inl (.inl h)
  ·exact .inl (.inr (.inl h))
  ·exact .inr (.inl h)
  ·exact .inr (.inr h)
theorem mem_take_succ (l:List UInt8) (j:Nat) (x:UInt8) (hj:j < l.length):x ∈ l.take (j + 1) ↔ x ∈ l.take j ∨ l[j] = x:=by
 rw [List.take_add_one,List.getElem?_eq_getElem hj,List.mem_append,Option.toList_some,List.mem_singleton,eq_comm (a:=x)]
set_option maxRecDepth 100000 in
set_option maxHeartbeats 1000000 in
theorem rName_any (l:List UInt8) (w:World) (hs:l.length ≤ 9223372036854775806) :
  Calls Tryz.prog 122 #[sv l] w fun e w'=>e = .returned (.int .i64 (nameE l)) ∧ w = w':=by
 have z:=str_size l
 by_cases h0:l = []
 ·subst h0
  go_enter Tryz.func122,Tryz.ntmps122
  go_wp2
  go_ret
  exact ⟨rfl,rfl⟩
 ·have b0:l.isEmpty = false:=by cases l <;> simp_all
  have b0':(l == []) = false:=by rw [beq_eq_false_iff_ne];exact h0
  have HN:=Lib.hid (name_eq l h0)
  obtain ⟨P,hP⟩:∃ P:Prop,P = (l = [46] ∨ l = [46,46] ∨ 16 < l.length):=⟨_,rfl⟩
  rw [← hP] at HN
  have hcs:∃ bb:Bool,(bb = true ↔ P) ∧ (((l == [46]) = true ∧ bb = true) ∨ ((l == [46]) = false ∧ (l == [46,46]) = true ∧ bb = true) ∨ ((l == [46]) = false ∧ (l == [46,46]) = false ∧ decide ((16:Int) < (l.length:Int)) = true ∧ bb = true) ∨ ((l == [46]) = false ∧ (l == [46,46]) = false ∧ decide ((16:Int) < (l.length:Int)) = false ∧ bb = false)):=by
   refine ⟨decide (l = [46] ∨ l = [46,46] ∨ 16 < l.length),by rw [hP,decide_eq_true_iff],?_⟩
   by_cases h1:l = [46]
   ·exact .inl ⟨by simp [h1],by simp [h1]⟩
   ·by_cases h2:l = [46,46]
    ·exact .inr (.inl ⟨by simp [h2],by simp [h2],by simp [h2]⟩)
    ·by_cases h3:16 < l.length
     ·exact .inr (.inr (.inl ⟨by simp [h1],by simp [h2],decide_eq_true (by omega),by simp [h3]⟩))
     ·exact .inr (.inr (.inr ⟨by simp [h1],by simp [h2],decide_eq_false (by omega),by simp [h1,h2];omega⟩))
  obtain ⟨bb,hbb,hcs⟩:=hcs
  have HB:=Lib.hid hbb
  clear hP hbb h0
  rcases hcs with ⟨b1,rfl⟩ | ⟨b1,b2,rfl⟩ | ⟨b1,b2,h3,rfl⟩ | ⟨b1,b2,h3,rfl⟩
  all_goals
   go_enter Tryz.func122,Tryz.ntmps122
   go_wp2_with fail
   go_loopw [3,4] (fun b i wr=>∃ (j:Nat) (bv:Bool),j ≤ l.length ∧ b = .bool bv ∧ i = .int .i64 j ∧ Hid (bv = true ↔ (P ∨ (47:UInt8) ∈ l.take j ∨ (0:UInt8) ∈ l.take j)) ∧ Hid (w = wr)) (fun _ i _=>l.length - (intOf i).toNat)
   case atStart=>exact ⟨0,_,by omega,rfl,rfl,by rw [Hid];simpa using HB.out,rfl⟩
   case round =>
    obtain ⟨j,bv,hj,rfl,rfl,HV,HW⟩:=hrel
    by_cases hlt:j < l.length
    ·have hji:(j:Int) < l.length:=by omega
     have hz:j < (⟨l.toArray⟩:ByteArray).size:=by rw [z];exact hlt
     obtain ⟨x,hx⟩:∃ x:UInt8,(⟨l.toArray⟩:ByteArray)[j]'hz = x:=⟨_,rfl⟩
     have HX:Hid (l[j]'hlt = x):=hx
     have HM47:=Lib.hid (mem_take_succ l j 47 hlt)
     have HM0:=Lib.hid (mem_take_succ l j 0 hlt)
     cases bv with
     | true =>
      have HV2:Hid (true = true ↔ (P ∨ (47:UInt8) ∈ l.take (j + 1) ∨ (0:UInt8) ∈ l.take (j + 1))):=by
       rw [Hid,HM47.out,HM0.out]
       refine ⟨fun _ => ?_,fun _=>rfl⟩
       rcases HV.out.1 rfl with h | h | h
       ·exact .inl h
       ·exact .inr (.inl (.inl h))
       ·exact .inr (.inr (.inl h))
      clear HM47 HM0 HV
      go_wp2_with fail
      go_roundw
      case rel=>exact ⟨j + 1,true,by omega,rfl,by go_num,HV2,HW⟩
      case measure=>simp [intOf];omega
     | false =>
      by_cases e1:x = 47
      ·have HV2:Hid (true = true ↔ (P ∨ (47:UInt8) ∈ l.take (j + 1) ∨ (0:UInt8) ∈ l.take (j + 1))):=by
        rw [Hid,HM47.out,HM0.out]
        exact ⟨fun _=>.inr (.inl (.inr (HX.out.trans e1))),fun _=>rfl⟩
       subst e1
       clear HM47 HM0 HV
       go_wp2_with fail
       go_roundw
       case rel=>exact ⟨j + 1,true,by omega,rfl,by go_num,HV2,HW⟩
       case measure=>simp [intOf];omega
      ·by_cases e2:x = 0
       ·have HV2:Hid (true = true ↔ (P ∨ (47:UInt8) ∈ l.take (j + 1) ∨ (0:UInt8) ∈ l.take (j + 1))):=by
         rw [Hid,HM47.out,HM0.out]
         exact ⟨fun _=>.inr (.inr (.inr (HX.out.trans e2))),fun _=>rfl⟩
        subst e2
        clear HM47 HM0 HV e1
        go_wp2_with fail
        go_roundw
        case rel=>exact ⟨j + 1,true,by omega,rfl,by go_num,HV2,HW⟩
        case measure=>simp [intOf];omega
       ·have HV2:Hid (false = true ↔ (P ∨ (47:UInt8) ∈ l.take (j + 1) ∨ (0:UInt8) ∈ l.take (j + 1))):=by
         rw [Hid,HM47.out,HM0.out,HX.out]
         rw [HV.out]
         refine ⟨fun h => ?_,fun h => ?_⟩
         ·rcases h with h | h | h
          ·exact .inl h
          ·exact .inr (.inl (.inl h))
          ·exact .inr (.inr (.inl h))
         ·rcases h with h | (h | h) | h | h
          ·exact .inl h
          ·exact .inr (.inl h)
          ·exact absurd h e1
          ·exact .inr (.inr h)
          ·exact absurd h e2
        obtain ⟨c,hc⟩:∃ c:Nat,x.toNat = c:=⟨_,rfl⟩
        have n1:c ≠ 47:=fun h=>e1 (UInt8.toNat_inj.1 (hc.trans h))
        have n2:c ≠ 0:=fun h=>e2 (UInt8.toNat_inj.1 (hc.trans h))
        have n3:((c:Int) == 47) = false:=by rw [beq_eq_false_iff_ne];omega
        have n4:((c:Int) == 0) = false:=by rw [beq_eq_false_iff_ne];omega
        clear HM47 HM0 HV e1 e2
        go_wp2_with fail
        go_roundw
        case rel=>exact ⟨j + 1,false,by omega,rfl,by go_num,HV2,HW⟩
        case measure=>simp [intOf];omega
    ·obtain rfl:j = l.length:=by omega
     have hv:=HV.out
     rw [List.take_length] at hv
     have hnm:=HN.out bv hv
     have HNM:=Lib.hid hnm
     clear hv hnm HV
     cases bv with
     | true =>
      go_wp2_with fail
      go_ret
      exact ⟨by rw [HNM.out];rfl,HW.out⟩
     | false =>
      go_wp2_with fail
      go_ret
      exact ⟨by rw [HNM.out];rfl,HW.out⟩
theorem cut_str (l:List UInt8) (f j:Nat):(⟨l.toArray⟩:ByteArray).extract f j = ⟨((l.drop f).take (j - f)).toArray⟩:=by
 apply ByteArray.ext
 rw [ByteArray.data_extract]
 simp [List.extract_eq_take_drop]
theorem cut_more (l:List UInt8) (f j:Nat) (hf:f ≤ j) (hj:j < l.length):(l.drop f).take (j + 1 - f) = (l.drop f).take (j - f) ++ [l[j]]:=by
 have e:j + 1 - f = (j - f) + 1:=by omega
 rw [e,List.take_add_one,List.getElem?_drop,show f + (j - f) = j by omega,List.getElem?_eq_getElem hj]
 rfl
theorem cut_here (l:List UInt8) (f j:Nat) (hf:f ≤ j) (hj:j < l.length) (h47:l[j] = 47) (hn:(47:UInt8) ∉ (l.drop f).take (j - f)):piecesL (l.drop f) = ((l.drop f).take (j - f)) :: piecesL (l.drop (j + 1)):=by
 have e:l.drop f = (l.drop f).take (j - f) ++ 47 :: l.drop (j + 1):=by
  conv=>lhs;rw [← List.take_append_drop (j - f) (l.drop f)]
  rw [List.drop_drop,show f + (j - f) = j by omega,List.drop_eq_getElem_cons hj,h47]
 conv=>lhs;rw [e]
 exact pieces_yes _ _ hn
structure CutI (l:List UInt8) (j f:Nat) (ps:List (List UInt8)):Prop where
 jl:j ≤ l.length
 fj:f ≤ j
 pc:piecesL l = ps ++ piecesL (l.drop f)
 no:(47:UInt8) ∉ (l.drop f).take (j - f)
set_option maxRecDepth 100000 in
set_option maxHeartbeats 1000000 in
theorem rCut_any (l:List UInt8) (w:World) (hl:l.length ≤ 2000000) :
  Calls Tryz.prog 96 #[sv l] w fun e w'=>∃ v,e = .returned v ∧ SRow w' w.heap.size v (piecesL l) ∧ Below w.heap.size w w':=by
 have z:=str_size l
 have HBD:=Lib.hid (pieces_bd l)
 go_enter Tryz.func96,Tryz.ntmps96
 go_wp2_with fail
 go_loopw [3,4,5] (fun o fr i wr=>∃ (j f:Nat) (ps:List (List UInt8)) (a:Option Addr) (n c:Nat),j ≤ l.length + 1 ∧ i = .int .i64 j ∧ fr = .int .i64 f ∧ o = .slice a n c ∧ Hid (CutI l j f ps ∨ (j = l.length + 1 ∧ ps = piecesL l)) ∧ Hid (SRow wr w.heap.size (.slice a n c) ps ∧ Below w.heap.size w wr)) (fun _ _ i _=>l.length + 1 - (intOf i).toNat)
 case atStart=>exact ⟨0,0,[],none,0,0,by omega,rfl,rfl,rfl,.inl ⟨by omega,by omega,by simp,by simp⟩,World.ownsRow_nil _ _ _ _,Below.refl _ _⟩
 case round =>
  obtain ⟨j,f,ps,a,n,c,hj,rfl,rfl,rfl,HC,HR⟩:=hrel
  by_cases hlt:j ≤ l.length
  ·have hci:CutI l j f ps:=HC.out.resolve_right (fun h=>by omega)
   have hps:ps.length ≤ 2000000:=by
    have h1:=HBD.out.1
    have h2:=congrArg List.length hci.pc
    have h3:0 < (piecesL (l.drop f)).length:=List.length_pos_iff.2 (piecesL_ne _)
    rw [List.length_append] at h2
    omega
   have hfj:=hci.fj
   obtain ⟨seg,hseg⟩:∃ seg,seg = (l.drop f).take (j - f):=⟨_,rfl⟩
   have hex:(⟨l.toArray⟩:ByteArray).extract f j = ⟨seg.toArray⟩:=by rw [cut_str,hseg]
   have hzj:j ≤ (⟨l.toArray⟩:ByteArray).size:=by rw [z];exact hlt
   have hsn:n = ps.length:=(SRow.drop HR.out.1).1
   obtain ⟨g0,cp,w',hrun,hown,hgr,hlies⟩:=append_s (wr.alloc (.cells #[sv seg] 9)) w.heap.size (.slice a n c) ps.length _ (World.ownsRow.alloc HR.out.1 _) ⟨wr.heap.size,0,none⟩ 1 1 [sv seg] rfl (fun k u hu=>by rw [add0,blk_cell (blk_new wr _)];simpa using hu) (by simp [Value.oneCell']) (by decide) (by omega) (by have:=HR.out.2.size;simp;omega)
   have HRUN:=Lib.hid hrun
   have HNEW:Hid (SRow w' w.heap.size (.slice (some ⟨g0,0,none⟩) (ps.length + 1) cp) (ps ++ [seg]) ∧ Below w.heap.size w w'):=by
    refine ⟨by unfold SRow;rw [List.length_append,List.map_append];exact hown,?_⟩
    have hlt:=World.ownsRow.lt HR.out.1
    have hb:=HR.out.2
    refine ⟨hgr.os.trans hb.os,hgr.tape.trans hb.tape,hgr.output.trans hb.output,by have h1:=hgr.size;have h2:=hb.size;simp at h1;omega,fun b hb' => ?_⟩
    have hbs:=hb.size
    rw [hgr.block b (by simp;omega) (fun e=>by have:=(hlt b e.symm).1;omega),Below.heap_alloc _ _ _ (by omega)]
    exact hb.block b hb'
   have HCI:=Lib.hid hci
   have HSEG:=Lib.hid hseg
   clear hci hrun hown hgr hlies hseg HC
   by_cases hend:j = l.length
   ·subst hend
    have hi2:((l.length:Int) == (l.length:Int)) = true:=by simp
    have HFIN:Hid (ps ++ [seg] = piecesL l):=by
     have h1:=HCI.out.no
     have e:(l.drop f).take (l.length - f) = l.drop f:=by rw [List.take_of_length_le];simp
     rw [e] at h1
     rw [Hid,HCI.out.pc,pieces_no _ h1,HSEG.out,e]
    go_wp2_with (at_builtin;refine reg.wpList_append rfl rfl rfl rfl rfl HRUN.out ?_)
    go_roundw
    case rel=>exact ⟨l.length + 1,l.length + 1,ps ++ [seg],_,_,_,by omega,by go_num,by go_num,rfl,.inr ⟨rfl,HFIN.out⟩,HNEW⟩
    case measure=>simp [intOf]
   ·have hjl:j < l.length:=by omega
    have hji:((j:Int) == (l.length:Int)) = false:=by rw [beq_eq_false_iff_ne];omega
    have hz:j < (⟨l.toArray⟩:ByteArray).size:=by rw [z];exact hjl
    obtain ⟨x,hx⟩:∃ x:UInt8,(⟨l.toArray⟩:ByteArray)[j]'hz = x:=⟨_,rfl⟩
    have HX:Hid (l[j]'hjl = x):=hx
    by_cases e1:x = 47
    ·have HCN:Hid (CutI l (j + 1) (j + 1) (ps ++ [seg])):=by
      refine ⟨by omega,by omega,?_,by simp⟩
      rw [HCI.out.pc,cut_here l f j hfj hjl (HX.out.trans e1) HCI.out.no,HSEG.out]
      simp
     subst e1
     go_wp2_with (at_builtin;refine reg.wpList_append rfl rfl rfl rfl rfl HRUN.out ?_)
     go_roundw
     case rel=>exact ⟨j + 1,j + 1,ps ++ [seg],_,_,_,by omega,by go_num,by go_num,rfl,.inl HCN.out,HNEW⟩
     case measure=>simp [intOf];omega
    ·have HCN:Hid (CutI l (j + 1) f ps):=by
      refine ⟨by omega,by omega,HCI.out.pc,?_⟩
      rw [cut_more l f j hfj hjl,HX.out]
      intro hm
      rcases List.mem_append.1 hm with h | h
      ·exact HCI.out.no h
      ·exact e1 (List.mem_singleton.1 h).symm
     obtain ⟨cc,hc⟩:∃ c:Nat,x.toNat = c:=⟨_,rfl⟩
     have n1:cc ≠ 47:=fun h=>e1 (UInt8.toNat_inj.1 (hc.trans h))
     have n3:((cc:Int) == 47) = false:=by rw [beq_eq_false_iff_ne];omega
     clear e1
     go_wp2_with fail
     go_roundw
     case rel=>exact ⟨j + 1,f,ps,_,_,_,by omega,by go_num,rfl,rfl,.inl HCN.out,HR⟩
     case measure=>simp [intOf];omega
  ·obtain rfl:j = l.length + 1:=by omega
   have hps:ps = piecesL l:=by
    rcases HC.out with h | h
    ·have:=h.jl;omega
    ·exact h.2
   subst hps
   go_wp2_with fail
   go_ret
   exact ⟨_,rfl,HR.out.1,HR.out.2⟩
set_option maxRecDepth 100000 in
theorem rParts_any (l:List UInt8) (w:World) (hl:l.length ≤ 2000000) :
  Calls Tryz.prog 63 #[sv l] w fun e w'=>∃ v,e = .returned v ∧ SRow w' w.heap.size v (partsL l) ∧ Below w.heap.size w w':=by
 by_cases h0:l = []
 ·subst h0
  go_enter Tryz.func63,Tryz.ntmps63
  go_wp2
  go_ret
  exact ⟨_,rfl,World.ownsRow_nil _ _ _ _,Below.refl _ _⟩
 ·have b0:l.isEmpty = false:=by cases l <;> simp_all
  have b0':(l == []) = false:=by rw [beq_eq_false_iff_ne];exact h0
  have HC:=Lib.hid (fun W:World=>rCut_any l W hl)
  have HP:Hid (partsL l = piecesL l):=by rw [Hid,partsL,if_neg h0]
  clear h0
  go_enter Tryz.func63,Tryz.ntmps63
  go_wp2_with fail
  (with_reducible refine (HC.out _).mono ?_);rintro e w1 ⟨v,rfl,hr,hb⟩
  have HR:=Lib.hid hr
  have HB:=Lib.hid hb
  clear hr hb
  go_wp2_with fail
  go_ret
  exact ⟨_,rfl,by rw [HP.out];exact HR.out,HB.out⟩
theorem SRow.set {w:World} {base g n c:Nat} {ys:List (List UInt8)} (h:SRow w base (.slice (some ⟨g,0,none⟩) n c) ys) (j:Nat) (q:List UInt8):SRow (w.setCell ⟨g,j,none⟩ (sv q)) base (.slice (some ⟨g,0,none⟩) n c) (ys.set j q):=by
 obtain ⟨hl,⟨h1,h2⟩ | ⟨g',c',cur,hv,h2,h3,h4,h5,h6,h7⟩⟩:=h
 ·cases h1
 ·simp only [Value.slice.injEq,Option.some.injEq,Addr.mk.injEq] at hv
  obtain ⟨⟨rfl,-,-⟩,rfl,rfl⟩:=hv
  refine ⟨by simp,.inr ⟨g,c,cur.setIfInBounds j (sv q),by simp,h2,blk_set h3 j _,by simpa using h4,h5,by simpa using h6,?_⟩⟩
  rw [List.length_set,Array.toList_setIfInBounds,List.take_set,h7,List.map_set]
end Go.Proofs.YtifhnpkapgaboaaGreat.path
